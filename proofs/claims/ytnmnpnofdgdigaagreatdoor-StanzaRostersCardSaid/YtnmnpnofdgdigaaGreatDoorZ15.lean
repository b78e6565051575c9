/- Part 15 of a proof laid in parts, one behind the other; no condition of its own. -/
import Derived.Test.YtnmnpnofdgdigaaGreatDoorZ13
import Derived.Test.YtnmnpnofdgdigaaGreatDoorZ06
import Derived.Test.YtnmnpnofdgdigaaGreatDoorZ14
import Derived.Laws.EntriesVeiled
import Derived.Test.YtnmnpnofdgdigaaGreatDoorZ07
import Derived.Test.YtnmnpnofdgdigaaGreatDoorZ01
import Derived.Test.YtnmnpnofdgdigaaGreatDoorZ12
import Derived.Test.YtnmnpnofdgdigaaGreatDoorZ09
set_option linter.all false
section
namespace Go.Proofs.YtnmnpnofdgdigaaGreatDoor
open Go.RowKit
set_option linter.unusedSimpArgs false
set_option linter.unusedVariables false
theorem made_i64 (n:Nat):madeCells #[Value.int .i64 0] n=(ints .i64 (List.replicate n 0)).toArray:=by
 apply Array.ext'
 apply List.ext_getElem
 ·simp [madeCells,ints]
 ·intro i h1 h2
  simp [madeCells,ints,Nat.mod_one]
theorem treeI_not {v:List NodeL} (h:v.length=0∨512 < v.length∨(∃n,v[0]? = some n∧n.kind≠1)∨endN v 12 0≠some v.length):treeI v=false:=by
 unfold treeI
 cases v with
 | nil=>rfl
 | cons n t=>
  simp only [Bool.and_eq_false_iff,decide_eq_false_iff_not]
  rcases h with h|h|⟨n',h1,h⟩|h
  ·simp at h
  ·left;left;omega
  ·simp at h1;subst h1;left;right;exact h
  ·right;exact h
theorem treeI_yes {v:List NodeL} {n:NodeL} (h1:v.length≤512) (hn:v[0]? = some n) (h2:n.kind=1) (h3:endN v 12 0=some v.length):treeI v=true:=by
 unfold treeI
 cases v with
 | nil=>simp at hn
 | cons m t=>
  simp at hn
  subst hn
  simp only [List.length_cons] at h1
  simp [h1,h2,h3,Nat.le_of_succ_le_succ h1]
def BehPost (v:List NodeL) (w:World) (e:Ending) (w':World):Prop:=
 Below w.heap.size w w'∧((treeI v=false∧e=.returned (.slice none 0 0))∨
  (treeI v=true∧∃g es,e=.returned (.slice (some ⟨g,0,none⟩) v.length v.length)∧w.heap.size≤g∧RowI w' g es∧es.length=v.length∧Filled v es 0 v.length))
theorem make_row (W:World) (n:Nat) (hn:n≤512):(Instr.makeSlice 121 (.int .i64 (n:Int)) (.int .i64 (n:Int))).run Tryz.prog W=.ok (.slice (some ⟨W.heap.size,0,none⟩) n n) (W.alloc (.cells (ints .i64 (List.replicate n 0)).toArray 3)):=by
 obtain⟨i0,hi,hz0,hz1,hz2⟩:=info_parts info_i64
 have h:=run_make (P:=Tryz.prog) W 121 3 i0 (.int .i64 0) Tryz.underlying121 hi hz0 .i64 .i64 n n (by omega) (by omega) (by rw [hz2];omega) (by omega)
 rw [hz1,Nat.mul_one] at h
 rw [←made_i64]
 simpa [Value.cells] using h
theorem Cl.drew {w0:World} {Bv Bw Be G N c:Nat} {A:Option Addr} {W:World} (h:Cl w0 Bv Bw Be G N c A W):Cl w0 Bv Bw Be G N c A W.drew:=⟨h.low.drew,h.cv,h.cw,h.ce,h.h0,h.h1,h.h2,h.h3⟩
theorem var_new (w:World) (v:Value) (t:TypeId):VarE (w.alloc (.cells #[v] t)) w.heap.size v:=⟨t,heap_alloc_new w _⟩
theorem VarE.alloc {w:World} {g:Nat} {v:Value} (h:VarE w g v) (o:Obj):VarE (w.alloc o) g v:=h.ext ((Below.refl _ _).alloc (Nat.le_refl _) _)
theorem behind_cl (w : World) (A : Option Addr) (N c : Nat) (t1 t2 t3 : TypeId) (es : List Int) : ∃ W1, W1 = ((((w.alloc (.cells #[.slice A N c] t1)).alloc (.cells (ints .i64 es).toArray t2)).alloc (.cells #[.slice (some ⟨w.heap.size + 1, 0, none⟩) N N] t3)).alloc
      (.cells #[.func (.func 142) #[] #[.pointer (some ⟨w.heap.size, 0, none⟩), .pointer (some ⟨w.heap.size + 1 + 1 + 1, 0, none⟩), .pointer (some ⟨w.heap.size + 1 + 1, 0, none⟩)]] 170)) ∧
    Cl w w.heap.size (w.heap.size + 1 + 1 + 1) (w.heap.size + 1 + 1) (w.heap.size + 1) N c A W1 ∧ RowI W1 (w.heap.size + 1) es := by
  refine ⟨_, rfl, ⟨?_, ?_, ?_, ?_, by omega, by omega, by omega, by omega⟩, ?_⟩
  · exact ((((Below.refl _ _).alloc (Nat.le_refl _) _).alloc (by simp) _).alloc (by simp; omega) _).alloc (by simp; omega) _
  · exact (((var_new w _ _).alloc _).alloc _).alloc _
  · have h := var_new (((w.alloc (.cells #[.slice A N c] t1)).alloc (.cells (ints .i64 es).toArray t2)).alloc (.cells #[.slice (some ⟨w.heap.size + 1, 0, none⟩) N N] t3)) (.func (.func 142) #[] #[.pointer (some ⟨w.heap.size, 0, none⟩), .pointer (some ⟨w.heap.size + 1 + 1 + 1, 0, none⟩), .pointer (some ⟨w.heap.size + 1 + 1, 0, none⟩)]) 170
    simpa using h
  · have h := var_new ((w.alloc (.cells #[.slice A N c] t1)).alloc (.cells (ints .i64 es).toArray t2)) (.slice (some ⟨w.heap.size + 1, 0, none⟩) N N) t3
    refine VarE.alloc ?_ _
    simpa using h
  · have h : RowI ((w.alloc (.cells #[.slice A N c] t1)).alloc (.cells (ints .i64 es).toArray t2)) (w.heap.size + 1) es := by
      refine ⟨t2, ?_⟩
      have h := heap_alloc_new (w.alloc (.cells #[.slice A N c] t1)) (.cells (ints .i64 es).toArray t2)
      simpa using h
    exact (h.ext ((Below.refl _ _).alloc (Nat.le_refl _) _)).ext ((Below.refl _ _).alloc (Nat.le_refl _) _)
set_option maxHeartbeats 4000000 in
set_option maxRecDepth 10000 in
theorem behind_any (v:List NodeL) (A:Option Addr) (c:Nat) (w:World) (hc:v.length≤c) (hz:SzV 1000000000 v) (hr:RdV w w.heap.size A v) :
  Calls Tryz.prog 86 #[.slice A v.length c] w (BehPost v w):=by
 by_cases h0:v.length=0
 ·have HT:=treeI_not (.inl h0)
  have HTH:=Lib.hid HT
  clear HT
  rw [h0]
  go_enter Tryz.func86,Tryz.ntmps86
  go_wp2
  go_ret
  exact⟨(Below.refl _ _).alloc (Nat.le_refl _) _,.inl ⟨HTH.out,rfl⟩⟩
 ·have hnil:((v.length:Int) == 0)=false:=by rw [beq_eq_false_iff_ne];omega
  by_cases h512:512 < v.length
  ·have HTH:=Lib.hid (treeI_not (.inr (.inl h512)))
   have h512':(512:Int) < v.length:=by omega
   generalize v.length=N at *
   go_enter Tryz.func86,Tryz.ntmps86
   go_wp2
   go_ret
   exact⟨(Below.refl _ _).alloc (Nat.le_refl _) _,.inl ⟨HTH.out,rfl⟩⟩
  ·have h512':¬(512:Int) < v.length:=by omega
   obtain⟨n,hn⟩:∃n,v[0]? = some n:=⟨_,List.getElem?_eq_getElem (by omega)⟩
   obtain⟨b,off,rfl,hb,hcc⟩:=hr (by omega)
   have c0:=(hcc 0 n hn).1
   rw [Nat.zero_mul,Nat.add_zero] at c0
   have hne:b≠w.heap.size:=by omega
   have hpos:(0:Int) < v.length:=by omega
   by_cases hk:n.kind=1
   ·rw [hk] at c0
    have HN:=Lib.hid hn
    have HK:=Lib.hid hk
    have HR:=Lib.hid hr
    have hmk:=make_row (w.alloc (.cells #[.slice (some ⟨b,off,none⟩) v.length c] 22)) v.length (by omega)
    have HZ:=Lib.hid hz
    obtain⟨W1,hW1,hcl,hrow⟩:=behind_cl w (some ⟨b,off,none⟩) v.length c 22 3 121 (List.replicate v.length 0)
    have HCALL:=Lib.hid (fun W es (h1:Cl w w.heap.size (w.heap.size+1+1+1) (w.heap.size+1+1) (w.heap.size+1) v.length c (some ⟨b,off,none⟩) W) (h2:RowI W (w.heap.size+1) es) (h3:es.length=v.length)=>behind1_any v (some ⟨b,off,none⟩) c hc hz w w.heap.size (w.heap.size+1+1+1) (w.heap.size+1+1) (w.heap.size+1) hr 12 12 0 W es (Nat.le_refl _) rfl (Nat.zero_le _) h1 h2 h3)
    have hcld:=hcl.drew
    have hrowd:=hrow
    unfold EndPost at HCALL
    have eg:=enters_of (P:=Tryz.prog) Tryz.func142 (by kernel_rfl) rfl
    have cv:=hcl.cv.cell
    have cw:=hcl.cw.cell
    have hlen:=hz.1
    have HW1:=Lib.hid hW1
    clear hn hk hr hcc hz hcl hrow hW1
    go_enter Tryz.func86,Tryz.ntmps86
    go_wp2
    rw [←HW1.out]
    have HCLD:=Lib.hid hcld
    have HROWD:=Lib.hid hrowd
    clear hcld hrowd cv cw HW1
    refine TI.wp_region_typed (I:=fun i W=>if i=0 then Cl w w.heap.size (w.heap.size+1+1+1) (w.heap.size+1+1) (w.heap.size+1) v.length c (some ⟨b,off,none⟩) W∧∃es,RowI W (w.heap.size+1) es∧es.length=v.length else ∃es,RowI W (w.heap.size+1) es∧es.length=v.length∧∀e,endN v 12 0=some e→Filled v es 0 e) rfl (by kernel_rfl) (by kernel_rfl) ?_
    have hI:∀W,TI.Ext (fun i W=>if i=0 then Cl w w.heap.size (w.heap.size+1+1+1) (w.heap.size+1+1) (w.heap.size+1) v.length c (some ⟨b,off,none⟩) W∧∃es,RowI W (w.heap.size+1) es∧es.length=v.length else ∃es,RowI W (w.heap.size+1) es∧es.length=v.length∧∀e,endN v 12 0=some e→Filled v es 0 e) W1.drew W→
      Cl w w.heap.size (w.heap.size+1+1+1) (w.heap.size+1+1) (w.heap.size+1) v.length c (some ⟨b,off,none⟩) W∧∃es,RowI W (w.heap.size+1) es∧es.length=v.length:=fun W hW=>by
     have h:=hW 0 (by simp only [if_true];exact⟨HCLD.out,_,HROWD.out,by simp⟩)
     simpa using h
    have HI:=Lib.hid hI
    clear hI
    refine TI.tw_op1 (x:=.tmp 4) (c:=.pointer (some ⟨w.heap.size+1+1+1,0,none⟩)) (.func (.func 142) #[] #[.pointer (some ⟨w.heap.size,0,none⟩),.pointer (some ⟨w.heap.size+1+1+1,0,none⟩),.pointer (some ⟨w.heap.size+1+1,0,none⟩)]) rfl rfl (TI.wd_none rfl) (fun ρ W hW h1=>by
     have h2:=(HI.out W hW).1.cw.cell
     simp only [execOp,h1];go_simp) ?_
    refine TI.tw_clo #[.int .i64 0,.int .i64 12] (.inr fun u W=>u=.int .i64 (placeI (endN v 12 0))∧∃es,RowI W (w.heap.size+1) es∧es.length=v.length∧∀e,endN v 12 0=some e→Filled v es 0 e) ?_ rfl rfl (fun W=>eg _ W) rfl (TI.wd_none rfl) (fun W hW=>?_) ?_
    ·intro u W W' h hx
     have h2:=hx 1 (by simpa using h.2)
     exact⟨h.1,by simpa using h2⟩
    ·obtain⟨hc1,es,hr1,hl1⟩:=HI.out W hW
     refine(HCALL.out W es hc1 hr1 hl1).mono ?_
     rintro e w2 ⟨rfl,hC2,es2,hR2,hL2,hP2,hF2⟩
     refine⟨_,rfl,fun i hi=>?_,rfl,es2,hR2,hL2,hF2⟩
     by_cases h0:i=0
     ·simp only [h0,if_true]
      exact⟨hC2,es2,hR2,hL2⟩
     ·simp only [h0,if_false]
      exact⟨es2,hR2,hL2,hF2⟩
    refine TI.tw_op1 (x:=.tmp 1) (c:=.pointer (some ⟨w.heap.size,0,none⟩)) (.slice (some ⟨b,off,none⟩) v.length c) rfl rfl (TI.wd_none rfl) (fun ρ W hW h1=>by
     have h2:=(HI.out W hW).1.cv.cell
     simp only [execOp,h1];go_simp) ?_
    refine TI.tw_op1 (x:=.tmp 26) (c:=.slice (some ⟨b,off,none⟩) v.length c) (.int .i64 (v.length:Int)) rfl rfl (TI.wd_none rfl) (fun ρ W hW h1=>by
     simp only [execOp,resolve,invoke,builtin,Sem.run_bind,Sem.run_pure,Result.andThen_ok,List.map_toArray,List.map_cons,List.map_nil,h1];go_simp) ?_
    refine TI.tw_op2p (s:=25) (y:=.tmp 27) (c:=.int .i64 (placeI (endN v 12 0))) (e:=.int .i64 (v.length:Int)) (.bool (placeI (endN v 12 0) != (v.length:Int))) rfl rfl (fun u W h=>h.1) rfl (TI.wd_none rfl) (fun ρ W hW h1 h2=>by
     simp only [execOp,h1,h2];go_simp) ?_
    dsimp only [TI.wpT,List.reverse,List.reverseAux,TI.FinT]
    intro u W hW hF
    simp only [Act.put,List.setIfInBounds_toArray,List.set_cons_zero,List.set_cons_succ]
    obtain⟨hc1,-⟩:=HI.out W hW
    obtain⟨rfl,es,hr1,hl1,hf1⟩:=hF.2
    have HC1:=Lib.hid hc1
    have HR1:=Lib.hid hr1
    have HL1:=Lib.hid hl1
    have HF1:=Lib.hid hf1
    have ce:=hc1.ce.cell
    clear hc1 hr1 hl1 hf1 hW HCALL HI
    cases hen:endN v 12 0 with
    | none=>
     have HT:=Lib.hid (treeI_not (v:=v) (.inr (.inr (.inr (by rw [hen];simp)))))
     have hq:((-1:Int) != (v.length:Int))=true:=by rw [bne_iff_ne];omega
     unfold placeI
     clear hen
     go_wp2
     go_ret
     exact⟨HC1.out.low,.inl ⟨HT.out,rfl⟩⟩
    | some e=>
     by_cases he:e=v.length
     ·subst he
      have HT:=Lib.hid (treeI_yes (by omega) HN.out HK.out hen)
      have HE:=Lib.hid hen
      unfold placeI
      clear hen
      go_wp2
      go_ret
      exact⟨HC1.out.low,.inr ⟨HT.out,_,es,rfl,by omega,HR1.out,HL1.out,HF1.out _ HE.out⟩⟩
     ·have HT:=Lib.hid (treeI_not (v:=v) (.inr (.inr (.inr (by rw [hen];simpa using he)))))
      have hq:((e:Int) != (v.length:Int))=true:=by rw [bne_iff_ne];omega
      unfold placeI
      clear hen
      go_wp2
      go_ret
      exact⟨HC1.out.low,.inl ⟨HT.out,rfl⟩⟩
   ·have hk':(n.kind != 1)=true:=by simpa using hk
    have HTH:=Lib.hid (treeI_not (.inr (.inr (.inl ⟨n,hn,hk⟩))))
    clear hk hn hr hcc
    generalize v.length=N at *
    go_enter Tryz.func86,Tryz.ntmps86
    go_wp2
    go_ret
    exact⟨(Below.refl _ _).alloc (Nat.le_refl _) _,.inl ⟨HTH.out,rfl⟩⟩
end Go.Proofs.YtnmnpnofdgdigaaGreatDoor
end
section
namespace Go.Proofs.YtnmnpnofdgdigaaGreatDoor
open Go.RowKit
set_option linter.unusedSimpArgs false
set_option linter.unusedVariables false
def treeErr (v:List NodeL):Int:=if treeI v then 0 else 8
theorem tcheck_any (v:List NodeL) (A:Option Addr) (c:Nat) (w:World) (hc:v.length≤c) (hz:SzV 1000000000 v) (hr:RdV w w.heap.size A v) :
  Calls Tryz.prog 76 #[.slice A v.length c] w fun e w'=>e=.returned (.int .i64 (treeErr v))∧Below w.heap.size w w':=by
 have H:=Lib.hid (behind_any v A c w hc hz hr)
 have hq:=fun W a n m=>eql_nil (P:=Tryz.prog) W 121 3 a n m Tryz.underlying121
 unfold BehPost at H
 clear hr hz hc
 generalize v.length=N at *
 go_enter Tryz.func76,Tryz.ntmps76
 go_wp2_with fail
 refine H.out.mono ?_
 rintro e w1 ⟨hb,⟨ht,rfl⟩|⟨ht,g,es,rfl,-⟩⟩
 all_goals
  have X:=Lib.hid hb
  have HT:=Lib.hid ht
  clear hb ht
  go_wp2
  go_ret
  exact⟨ret_int (by unfold treeErr;rw [HT.out];rfl),X.out⟩
theorem own_mono {w:World} {base base' s n:Nat} {e:TypeId} {v:Value} {xs:List Value} (h:w.ownsRow base e s v n xs) (hb:base'≤base):w.ownsRow base' e s v n xs:=by
 refine⟨h.1,?_⟩
 rcases h.2 with h1|⟨g,cap,cur,h1,h2,h3⟩
 ·exact .inl h1
 ·exact .inr ⟨g,cap,cur,h1,by omega,h3⟩
theorem NewV.mono {base base':Nat} {w:World} {A:Option Addr} {c:Nat} {v:List NodeL} (h:NewV base w A c v) (hb:base'≤base):NewV base' w A c v:=by
 obtain⟨l,h1,h2,h3⟩:=h
 refine⟨l,h1,own_mono h2 hb,fun i x hi=>⟨(h3 i x hi).1,fun h0=>?_⟩⟩
 obtain⟨b,off,e1,e2,e3⟩:=(h3 i x hi).2 h0
 exact⟨b,off,e1,by omega,e3⟩
end Go.Proofs.YtnmnpnofdgdigaaGreatDoor
end
section
namespace Go.Proofs.YtnmnpnofdgdigaaGreatDoor
open Go.RowKit
set_option linter.unusedSimpArgs false
set_option linter.unusedVariables false
end Go.Proofs.YtnmnpnofdgdigaaGreatDoor
end
section
namespace Go.Proofs.YtnmnpnofdgdigaaGreatDoor
open Go.RowKit
set_option linter.unusedSimpArgs false
set_option linter.unusedVariables false
end Go.Proofs.YtnmnpnofdgdigaaGreatDoor
end
section
namespace Go.Proofs.YtnmnpnofdgdigaaGreatDoor
open Go.RowKit
set_option linter.unusedSimpArgs false
set_option linter.unusedVariables false
end Go.Proofs.YtnmnpnofdgdigaaGreatDoor
end
section
namespace Go.Proofs.YtnmnpnofdgdigaaGreatDoor
open Go.RowKit
set_option linter.unusedSimpArgs false
set_option linter.unusedVariables false
end Go.Proofs.YtnmnpnofdgdigaaGreatDoor
end
section
namespace Go.Proofs.YtnmnpnofdgdigaaGreatDoor
open Go.RowKit
set_option linter.unusedSimpArgs false
set_option linter.unusedVariables false
def encS (s:StL) (A:Option Addr) (c:Nat):Value:=.agg #[.int .u8 s.kind,.string s.typ,.string s.id,.string s.frm,.string s.to,.slice A s.load.length c]
def SAt (w:World) (g:Nat) (s:StL) (A:Option Addr) (c:Nat):Prop:=∃t,w.heap[g]? = some (.cells #[.int .u8 s.kind,.string s.typ,.string s.id,.string s.frm,.string s.to,.slice A s.load.length c] t (0,0))
section
variable {w w':World} {g:Nat} {s:StL} {A:Option Addr} {c:Nat}
theorem SAt.c0 (h:SAt w g s A c):w.cell? ⟨g,0,none⟩=some (.int .u8 s.kind):=by obtain⟨t,h⟩:=h;simp [World.cell?,h]
theorem SAt.c1 (h:SAt w g s A c):w.cell? ⟨g,1,none⟩=some (.string s.typ):=by obtain⟨t,h⟩:=h;simp [World.cell?,h]
theorem SAt.c2 (h:SAt w g s A c):w.cell? ⟨g,2,none⟩=some (.string s.id):=by obtain⟨t,h⟩:=h;simp [World.cell?,h]
theorem SAt.c3 (h:SAt w g s A c):w.cell? ⟨g,3,none⟩=some (.string s.frm):=by obtain⟨t,h⟩:=h;simp [World.cell?,h]
theorem SAt.c4 (h:SAt w g s A c):w.cell? ⟨g,4,none⟩=some (.string s.to):=by obtain⟨t,h⟩:=h;simp [World.cell?,h]
theorem SAt.c5 (h:SAt w g s A c):w.cell? ⟨g,5,none⟩=some (.slice A s.load.length c):=by obtain⟨t,h⟩:=h;simp [World.cell?,h]
theorem SAt.fz (h:SAt w g s A c) (i:Nat):w.frozen? ⟨g,i,none⟩=false:=by obtain⟨t,h⟩:=h;exact frozen_of_row w g i _ _ h
theorem SAt.lt (h:SAt w g s A c):g < w.heap.size:=by obtain⟨t,h⟩:=h;exact(Array.getElem?_eq_some_iff.1 h).1
theorem SAt.ext (h:SAt w g s A c) (hb:Below w.heap.size w w'):SAt w' g s A c:=by obtain⟨t,h⟩:=h;exact⟨t,heap_ext h hb⟩
theorem SAt.new (w:World) (t:TypeId) (s:StL) (A:Option Addr) (c:Nat):SAt (w.alloc (.cells #[.int .u8 s.kind,.string s.typ,.string s.id,.string s.frm,.string s.to,.slice A s.load.length c] t)) w.heap.size s A c:=⟨t,heap_alloc_new w _⟩
end
theorem RdW.ext {w w':World} {A:Option Addr} {l:List (List NodeL)} (h:RdW w w.heap.size A l) (hb:Below w.heap.size w w'):RdW w' w'.heap.size A l:=fun h0=>by
 obtain⟨b,off,h1,h2,h3⟩:=h h0
 refine⟨b,off,h1,Nat.lt_of_lt_of_le h2 hb.size,fun i v hv=>?_⟩
 obtain⟨A',c',e1,e2,e3⟩:=h3 i v hv
 exact⟨A',c',(hb.cell (p:=⟨b,off+i,none⟩) h2).trans e1,e2,(e3.below hb (Nat.le_refl _)).more hb.size⟩
section
variable {ops:Array Oper} {w0:World} {Fin:List Ty→Prop} {rest:List Oper} {E:Env} {Ts:List Ty} {o:Oper}
end
end Go.Proofs.YtnmnpnofdgdigaaGreatDoor
end
section
namespace Go.Proofs.YtnmnpnofdgdigaaGreatDoor
open Go.RowKit
set_option linter.unusedSimpArgs false
set_option linter.unusedVariables false
end Go.Proofs.YtnmnpnofdgdigaaGreatDoor
end
section
namespace Go.Proofs.YtnmnpnofdgdigaaGreatDoor
open Go.RowKit
set_option linter.unusedSimpArgs false
set_option linter.unusedVariables false
def NewVX (base:Nat) (u:Value) (w:World) (A:Option Addr) (c:Nat) (v:List NodeL):Prop:=
 ∃l:List NodeH,l.map (·.1)=v∧w.ownsRow base 36 6 (.slice A v.length c) v.length (cellsN l)∧u.ownBlock≠some (blk A)∧∀(i:Nat) (x:NodeH),l[i]? = some x→x.1.attrs.length≤x.2.2∧NewO base u w x.2.1 x.1.attrs
section
variable {base:Nat} {u u':Value} {w w':World} {A:Option Addr} {c:Nat} {v:List NodeL}
theorem NewVX.ext (h:NewVX base u w A c v) (hb:Below w.heap.size w w'):NewVX base u w' A c v:=by
 obtain⟨l,h1,h2,h3,h4⟩:=h
 exact⟨l,h1,own_keep h2 hb,h3,fun i x hi=>⟨(h4 i x hi).1,(h4 i x hi).2.ext hb⟩⟩
theorem NewVX.app (h:NewVX base u w A c v) (h0:0 < v.length) (hg:w.grownBy w' u.ownBlock) (hr:u'.ownBlock=u.ownBlock∨u'.ownBlock=some w.heap.size):NewVX base u' w' A c v:=by
 obtain⟨l,h1,h2,h3,h4⟩:=h
 obtain⟨g,rfl,h5,h6⟩:=own_some h2 h0
 refine⟨l,h1,h2.kept hg (.inr (fun e=>h3 e.symm)),?_,fun i x hi=>⟨(h4 i x hi).1,(h4 i x hi).2.app hg hr⟩⟩
 rcases hr with e|e <;> rw [e]
 ·exact h3
 ·intro e2
  simp only [Option.some.injEq,blk] at e2
  omega
theorem NewVX.of {base':Nat} (h:NewV base' w A c v) (h0:0 < v.length) (hb:base≤base') (hu:∀g,u.ownBlock=some g→g < base'):NewVX base u w A c v:=by
 obtain⟨l,h1,h2,h3⟩:=h
 obtain⟨g,rfl,h5,h6⟩:=own_some h2 h0
 refine⟨l,h1,own_mono h2 hb,fun e=>by have:=hu _ e;simp only [blk] at this;omega,fun i x hi=>⟨(h3 i x hi).1,fun h00=>?_⟩⟩
 obtain⟨b,off,e1,e2,e3,e4,e5⟩:=(h3 i x hi).2 h00
 exact⟨b,off,e1,by omega,fun e=>by have:=hu _ e;omega,e4,e5⟩
theorem NewO.rda {B:Option Addr} {l:List AttrL} (h:NewO base u w B l):RdA w w.heap.size B l:=fun h0=>by
 obtain⟨b,off,h1,_,_,h2,h3⟩:=h h0
 exact⟨b,off,h1,h2,h3⟩
theorem NewVX.rdv (h:NewVX base u w A c v):RdV w w.heap.size A v:=by
 obtain⟨l,rfl,h2,_,h3⟩:=h
 rw [List.length_map] at h2
 exact rd_rdv (Rd.of_own h2) (fun i x hi=>⟨(h3 i x hi).1,(h3 i x hi).2.rda⟩)
end
def RowT (base:Nat) (u:Value) (w:World) (ts:List TreeH):Prop:=
 w.ownsRow base 22 1 u ts.length (cellsT ts)∧∀x∈ts,0 < x.1.length∧x.1.length≤x.2.2∧NewVX base u w x.2.1 x.2.2 x.1
theorem RowT.nil (base:Nat) (w:World):RowT base (.slice none 0 0) w []:=⟨World.ownsRow_nil _ _ _ _,fun x hx=>by cases hx⟩
theorem RowT.ext {base:Nat} {u:Value} {w w':World} {ts:List TreeH} (h:RowT base u w ts) (hb:Below w.heap.size w w'):RowT base u w' ts:=
 ⟨own_keep h.1 hb,fun x hx=>⟨(h.2 x hx).1,(h.2 x hx).2.1,(h.2 x hx).2.2.ext hb⟩⟩
theorem RowT.app {base:Nat} {u u':Value} {w w':World} {ts:List TreeH} {t:TreeH} (h:RowT base u w ts) (ht:0 < t.1.length∧t.1.length≤t.2.2∧NewVX base u w t.2.1 t.2.2 t.1)
  (hown:w'.ownsRow base 22 1 u' (ts.length+1) (cellsT (ts++[t]))) (hg:w.grownBy w' u.ownBlock) (hr:u'.ownBlock=u.ownBlock∨u'.ownBlock=some w.heap.size):RowT base u' w' (ts++[t]):=by
 refine⟨by rw [List.length_append];exact hown,fun x hx=>?_⟩
 rw [List.mem_append,List.mem_singleton] at hx
 rcases hx with hx|rfl
 ·exact⟨(h.2 x hx).1,(h.2 x hx).2.1,(h.2 x hx).2.2.app (h.2 x hx).1 hg hr⟩
 ·exact⟨ht.1,ht.2.1,ht.2.2.app ht.1 hg hr⟩
theorem RowT.rdw {base n c:Nat} {A:Option Addr} {w:World} {ts:List TreeH} (h:RowT base (.slice A n c) w ts) (hn:n=ts.length):RdW w w.heap.size A (ts.map (·.1)):=fun h0=>by
 subst hn
 rw [List.length_map] at h0
 obtain⟨g,rfl,h1,h2⟩:=own_some h.1 h0
 refine⟨g,0,rfl,h2,fun i v hv=>?_⟩
 rw [List.getElem?_map,Option.map_eq_some_iff] at hv
 obtain⟨x,hx,rfl⟩:=hv
 obtain⟨q1,q2,q3⟩:=h.2 x (List.mem_of_getElem? hx)
 refine⟨x.2.1,x.2.2,?_,q2,q3.rdv⟩
 rw [Nat.zero_add,h.1.cellAt i (by have:=(List.getElem?_eq_some_iff.1 hx).1;omega)]
 simp [cellsT,hx,cT]
end Go.Proofs.YtnmnpnofdgdigaaGreatDoor
end
section
namespace Go.Proofs.YtnmnpnofdgdigaaGreatDoor
def emS:StL:=⟨0,emB,emB,emB,emB,[]⟩
end Go.Proofs.YtnmnpnofdgdigaaGreatDoor
end
section
namespace Go.Proofs.YtnmnpnofdgdigaaGreatDoor
open Go.RowKit
set_option linter.unusedSimpArgs false
set_option linter.unusedVariables false
abbrev put6 (w:World) (g:Nat) (a b c d e f:Value):World:=
 (((((w.setCell ⟨g,0,none⟩ a).setCell ⟨g,1,none⟩ b).setCell ⟨g,2,none⟩ c).setCell ⟨g,3,none⟩ d).setCell ⟨g,4,none⟩ e).setCell ⟨g,5,none⟩ f
theorem put6_heap {w:World} {g:Nat} {a0 b0 c0 d0 e0 f0:Value} {t:TypeId} (h:w.heap[g]? = some (.cells #[a0,b0,c0,d0,e0,f0] t (0,0))) (a b c d e f:Value) :
  (put6 w g a b c d e f).heap[g]? = some (.cells #[a,b,c,d,e,f] t (0,0)):=
 heap_setCell_same _ g 5 _ _ _ (heap_setCell_same _ g 4 _ _ _ (heap_setCell_same _ g 3 _ _ _ (heap_setCell_same _ g 2 _ _ _ (heap_setCell_same _ g 1 _ _ _ (heap_setCell_same _ g 0 _ _ _ h)))))
theorem put6_other {w:World} {g k:Nat} (hne:k≠g) (a b c d e f:Value):(put6 w g a b c d e f).heap[k]? = w.heap[k]?:=by
 unfold put6
 rw [heap_setCell_other _ _ k _ hne,heap_setCell_other _ _ k _ hne,heap_setCell_other _ _ k _ hne,heap_setCell_other _ _ k _ hne,heap_setCell_other _ _ k _ hne,heap_setCell_other _ _ k _ hne]
theorem put6_below {B:Nat} {w w':World} (h:Below B w w') {g:Nat} (hg:B≤g) (a b c d e f:Value):Below B w (put6 w' g a b c d e f):=
 (((((h.setCell (p:=⟨g,0,none⟩) hg a).setCell (p:=⟨g,1,none⟩) hg b).setCell (p:=⟨g,2,none⟩) hg c).setCell (p:=⟨g,3,none⟩) hg d).setCell (p:=⟨g,4,none⟩) hg e).setCell (p:=⟨g,5,none⟩) hg f
theorem SAt.put {w:World} {g:Nat} {s:StL} {A:Option Addr} {c:Nat} (h:SAt w g s A c) (s':StL) (A':Option Addr) (c':Nat) :
  SAt (put6 w g (.int .u8 s'.kind) (.string s'.typ) (.string s'.id) (.string s'.frm) (.string s'.to) (.slice A' s'.load.length c')) g s' A' c':=by
 obtain⟨t,h⟩:=h
 exact⟨t,put6_heap h _ _ _ _ _ _⟩
theorem SAt.extB {B:Nat} {w w':World} {g:Nat} {s:StL} {A:Option Addr} {c:Nat} (h:SAt w g s A c) (hb:Below B w w') (hg:g < B):SAt w' g s A c:=by
 obtain⟨t,h⟩:=h
 exact⟨t,(hb.block g hg).trans h⟩
def NRow (w:World) (g:Nat) (n:NodeL) (A:Option Addr) (c:Nat):Prop:=∃t,w.heap[g]? = some (.cells #[.int .u8 n.kind,.string n.space,.string n.name,.slice A n.attrs.length c,.string n.text,.int .i64 n.many] t (0,0))
section
variable {w w':World} {g:Nat} {n:NodeL} {A:Option Addr} {c:Nat}
theorem NRow.c0 (h:NRow w g n A c):w.cell? ⟨g,0,none⟩=some (.int .u8 n.kind):=by obtain⟨t,h⟩:=h;simp [World.cell?,h]
theorem NRow.c1 (h:NRow w g n A c):w.cell? ⟨g,1,none⟩=some (.string n.space):=by obtain⟨t,h⟩:=h;simp [World.cell?,h]
theorem NRow.c2 (h:NRow w g n A c):w.cell? ⟨g,2,none⟩=some (.string n.name):=by obtain⟨t,h⟩:=h;simp [World.cell?,h]
theorem NRow.lt (h:NRow w g n A c):g < w.heap.size:=by obtain⟨t,h⟩:=h;exact(Array.getElem?_eq_some_iff.1 h).1
theorem NRow.ext (h:NRow w g n A c) (hb:Below w.heap.size w w'):NRow w' g n A c:=by obtain⟨t,h⟩:=h;exact⟨t,heap_ext h hb⟩
theorem NRow.new (w:World) (t:TypeId) (n:NodeL) (A:Option Addr) (c:Nat):NRow (w.alloc (.cells #[.int .u8 n.kind,.string n.space,.string n.name,.slice A n.attrs.length c,.string n.text,.int .i64 n.many] t)) w.heap.size n A c:=⟨t,heap_alloc_new w _⟩
end
section
variable {ops:Array Oper} {w0:World} {Fin:List Ty→Prop} {rest:List Oper} {E:Env} {Ts:List Ty} {o:Oper}
end
end Go.Proofs.YtnmnpnofdgdigaaGreatDoor
end
section
namespace Go.Proofs.YtnmnpnofdgdigaaGreatDoor
open Go.RowKit
set_option linter.unusedSimpArgs false
set_option linter.unusedVariables false
end Go.Proofs.YtnmnpnofdgdigaaGreatDoor
end
section
namespace Go.Proofs.YtnmnpnofdgdigaaGreatDoor
def manyM (n:NodeL) (k:Int):NodeL:=⟨n.kind,n.space,n.name,n.attrs,n.text,k⟩
def textT (v:List NodeL):Bool:=decide (v.length=1) && decide ((nodeAt v 0).kind=2) && nodeI (nodeAt v 0)
def partOK (v:List NodeL):Bool:=textT v || treeI v
def joinV (n:NodeL) (l:List (List NodeL)):List NodeL:=manyM n l.length :: l.flatten
def putE (n:NodeL) (l:List (List NodeL)):Int:=
 if treeI [manyM n 0] then(if l.any (fun v=>!partOK v) then 8 else if 512 < (joinV n l).length then 4 else if treeI (joinV n l) then 0 else 8) else 8
def putV (n:NodeL) (l:List (List NodeL)):List NodeL:=if putE n l=0 then joinV n l else []
theorem manyM_sz {n:NodeL} {M:Nat} {k:Int} (h:SzN M n) (h0:-9223372036854775808≤k) (h1:k≤9223372036854775807):SzN M (manyM n k):=⟨h.1,h.2.1,h.2.2.1,h.2.2.2.1,h.2.2.2.2.1,h0,h1⟩
theorem putE_ne (n:NodeL) (l:List (List NodeL)) (h:putE n l≠0):putV n l=[]:=by unfold putV;rw [if_neg h]
theorem putE_0 {n:NodeL} {l:List (List NodeL)} (h:treeI [manyM n 0]=false):putE n l=8:=by unfold putE;rw [h];rfl
theorem putE_1 {n:NodeL} {l:List (List NodeL)} (h:treeI [manyM n 0]=true) (h1:l.any (fun v=>!partOK v)=true):putE n l=8:=by unfold putE;rw [h,h1];rfl
theorem putE_2 {n:NodeL} {l:List (List NodeL)} (h:treeI [manyM n 0]=true) (h1:l.any (fun v=>!partOK v)=false) (h2:512 < (joinV n l).length):putE n l=4:=by unfold putE;rw [h,h1,if_pos rfl,if_neg (by decide),if_pos h2]
theorem putE_3 {n:NodeL} {l:List (List NodeL)} (h:treeI [manyM n 0]=true) (h1:l.any (fun v=>!partOK v)=false) (h2:¬512 < (joinV n l).length):putE n l=if treeI (joinV n l) then 0 else 8:=by unfold putE;rw [h,h1,if_pos rfl,if_neg (by decide),if_neg h2]
theorem joinV_len (n:NodeL) (l:List (List NodeL)):(joinV n l).length=1+l.flatten.length:=by unfold joinV;rw [List.length_cons];omega
def laidK (n:NodeL) (l:List (List NodeL)) (k:Nat):List NodeL:=manyM n l.length :: (l.take k).flatten
theorem laidK_len (n:NodeL) (l:List (List NodeL)) (k:Nat):(laidK n l k).length=1+(l.take k).flatten.length:=by unfold laidK;rw [List.length_cons];omega
theorem laidK_succ (n:NodeL) (l:List (List NodeL)) {k:Nat} {v:List NodeL} (h:l[k]? = some v):laidK n l (k+1)=laidK n l k++v:=by
 unfold laidK
 rw [List.take_add_one,h,Option.toList_some,List.flatten_append,List.flatten_cons,List.flatten_nil,List.append_nil,List.cons_append]
theorem laidK_all (n:NodeL) (l:List (List NodeL)):laidK n l l.length=joinV n l:=by unfold laidK joinV;rw [List.take_length]
theorem laidK_le (n:NodeL) (l:List (List NodeL)) (k:Nat):(laidK n l k).length≤(joinV n l).length:=by
 rw [laidK_len,joinV_len]
 have h:l.flatten.length=(l.take k).flatten.length+(l.drop k).flatten.length:=by rw [←List.length_append,←List.flatten_append,List.take_append_drop]
 omega
theorem joinV_sz {n:NodeL} {l:List (List NodeL)} (hn:SzN 1000000000 n) (hl:l.length≤1000000000) (hv:∀v∈l,∀x∈v,SzN 1000000000 x):∀x∈joinV n l,SzN 1000000000 x:=fun x hx=>by
 unfold joinV at hx
 rcases List.mem_cons.1 hx with rfl|hx
 ·exact manyM_sz hn (by omega) (by omega)
 ·obtain⟨v,h1,h2⟩:=List.mem_flatten.1 hx
  exact hv v h1 x h2
end Go.Proofs.YtnmnpnofdgdigaaGreatDoor
end
section
namespace Go.Proofs.YtnmnpnofdgdigaaGreatDoor
open Go.RowKit
set_option linter.unusedSimpArgs false
set_option linter.unusedVariables false
theorem one_of {v:List NodeL} (h:v.length=1):∃n,v=[n]:=by
 cases v with
 | nil=>simp at h
 | cons n t=>cases t with
  | nil=>exact⟨n,rfl⟩
  | cons _ _=>simp at h
set_option maxHeartbeats 1000000 in
set_option maxRecDepth 10000 in
theorem put1_any (v:List NodeL) (A:Option Addr) (c:Nat) (w:World) (hz:SzV 1000000000 v) (hr:RdV w w.heap.size A v) :
  Calls Tryz.prog 87 (#[.slice A v.length c]++#[]) w fun e w'=>e=.returned (.bool (textT v))∧Below w.heap.size w w':=by
 rw [Array.append_empty]
 by_cases h1:v.length=1
 ·obtain⟨n,rfl⟩:=one_of h1
  have HT:Box (textT [n]=(decide (n.kind=2) && nodeI n)):=⟨by unfold textT nodeAt;simp⟩
  have HM:=Lib.hid (fun A' c' W h1 h2=>may_node n A' c' W h1 h2 (hz.2 n (List.mem_singleton.2 rfl)))
  obtain⟨b,off,rfl,hb,hcc⟩:=hr (by simp)
  obtain⟨d0,d1,d2,⟨A',c',d3,hl,hA⟩,d4,d5⟩:=hcc 0 n rfl
  rw [Nat.zero_mul,Nat.add_zero] at d0 d1 d2 d3 d4 d5
  have HM:=Lib.hid (HM.out A' c' w hA hl)
  clear hcc hz hr hl hA
  generalize textT [n]=r at *
  generalize nodeI n=q at *
  unfold encN at HM
  rw [h1]
  by_cases hk:n.kind=2
  ·have hk':(n.kind == 2)=true:=by rw [beq_iff_eq];exact hk
   have HR:Box (r=q):=⟨by rw [HT.out,decide_eq_true hk,Bool.true_and]⟩
   clear hk HT
   go_enter Tryz.func87,Tryz.ntmps87
   go_wp2_with fail
   refine HM.out.mono ?_
   rintro e w1 ⟨rfl,hb1⟩
   go_wp2
   go_ret
   exact⟨ret_bool HR.out.symm,hb1⟩
  ·have hk':(n.kind == 2)=false:=by rw [beq_eq_false_iff_ne];exact hk
   have HR:Box (r=false):=⟨by rw [HT.out,decide_eq_false hk,Bool.false_and]⟩
   clear hk HT
   go_enter Tryz.func87,Tryz.ntmps87
   go_wp2
   go_ret
   exact⟨ret_bool HR.out.symm,Below.refl _ _⟩
 ·have HT:Box (textT v=false):=⟨by unfold textT;rw [decide_eq_false h1];rfl⟩
  have h1':((v.length:Int) == 1)=false:=by rw [beq_eq_false_iff_ne];omega
  generalize textT v=r at *
  generalize v.length=N at *
  clear hr hz h1
  go_enter Tryz.func87,Tryz.ntmps87
  go_wp2
  go_ret
  exact⟨ret_bool HT.out.symm,Below.refl _ _⟩
set_option maxHeartbeats 1000000 in
set_option maxRecDepth 10000 in
theorem put2_any (v:List NodeL) (A:Option Addr) (c B:Nat) (w:World) (hc:v.length≤c) (hz:SzV 1000000000 v) (hr:RdV w w.heap.size A v) (hB:w.cell? ⟨B,0,none⟩=some (.func (.func 87) #[] #[])) :
  Calls Tryz.prog 89 (#[.slice A v.length c]++#[.pointer (some ⟨B,0,none⟩)]) w fun e w'=>e=.returned (.bool (!partOK v))∧Below w.heap.size w w':=by
 have HP:Box (partOK v=(textT v || treeI v)):=⟨rfl⟩
 have H1:=Lib.hid (put1_any v A c w hz hr)
 have H2:=Lib.hid (fun W (hW:Below w.heap.size w W)=>behind_any v A c W hc hz ((hr.below hW (Nat.le_refl _)).more hW.size))
 have hq:=fun W a n m=>eql_nil (P:=Tryz.prog) W 121 3 a n m Tryz.underlying121
 have eg:=enters_of (P:=Tryz.prog) Tryz.func87 (by kernel_rfl) rfl
 unfold BehPost at H2
 clear hr hz hc
 generalize partOK v=r at *
 generalize treeI v=t at *
 rw [Array.append_empty] at H1
 rw [List.append_toArray,List.singleton_append]
 cases hx:textT v
 ·rw [hx] at H1 HP
  clear hx
  generalize v.length=N at *
  go_enter Tryz.func89,Tryz.ntmps89
  go_wp2_with fail
  refine H1.out.mono ?_
  rintro e w1 ⟨rfl,hb1⟩
  have X1:=Lib.hid hb1
  clear hb1
  go_wp2_with fail
  refine(H2.out w1 X1.out).mono ?_
  rintro e w2 ⟨hb,⟨ht,rfl⟩|⟨ht,g,es,rfl,-⟩⟩
  all_goals
   have X:=Lib.hid (X1.out.trans (hb.mono X1.out.size))
   have HT:=Lib.hid ht
   clear hb ht
   go_wp2
   go_ret
   exact⟨ret_bool (by rw [HP.out,HT.out];rfl),X.out⟩
 ·rw [hx] at H1 HP
  clear hx
  generalize v.length=N at *
  go_enter Tryz.func89,Tryz.ntmps89
  go_wp2_with fail
  refine H1.out.mono ?_
  rintro e w1 ⟨rfl,hb1⟩
  have X1:=Lib.hid hb1
  clear hb1
  go_wp2
  go_ret
  exact⟨ret_bool (by rw [HP.out];rfl),X1.out⟩
end Go.Proofs.YtnmnpnofdgdigaaGreatDoor
end
