/- Part 15 of a proof laid in parts, one behind the other; no condition of its own. -/
import Derived.Test.YtnmnpnofdgdigaaGreatDoorZ13
import Derived.Test.YtnmnpnofdgdigaaGreatDoorZ08
import Derived.Test.YtnmnpnofdgdigaaGreatDoorZ14
import Derived.Laws.EntriesVeiled
import Derived.Test.YtnmnpnofdgdigaaGreatDoorZ04
import Derived.Test.YtnmnpnofdgdigaaGreatDoorZ09
set_option linter.all false
section
namespace Go.Proofs.YtnmnpnofdgdigaaGreatDoor
open Go.RowKit
set_option linter.unusedSimpArgs false
set_option linter.unusedVariables false
theorem made_i64 (n:Nat):madeCells #[Value.int .i64 0] n=(ints .i64 (List.replicate n 0)).toArray:=by
 apply Array.ext'
 apply List.ext_getElem
 ·simp [madeCells,ints]
 ·intro i h1 h2
  simp [madeCells,ints,Nat.mod_one]
theorem treeI_not {v:List NodeL} (h:v.length=0∨512 < v.length∨(∃n,v[0]? = some n∧n.kind≠1)∨endN v 12 0≠some v.length):treeI v=false:=by
 unfold treeI
 cases v with
 | nil=>rfl
 | cons n t=>
  simp only [Bool.and_eq_false_iff,decide_eq_false_iff_not]
  rcases h with h|h|⟨n',h1,h⟩|h
  ·simp at h
  ·left;left;omega
  ·simp at h1;subst h1;left;right;exact h
  ·right;exact h
theorem treeI_yes {v:List NodeL} {n:NodeL} (h1:v.length≤512) (hn:v[0]? = some n) (h2:n.kind=1) (h3:endN v 12 0=some v.length):treeI v=true:=by
 unfold treeI
 cases v with
 | nil=>simp at hn
 | cons m t=>
  simp at hn
  subst hn
  simp only [List.length_cons] at h1
  simp [h1,h2,h3,Nat.le_of_succ_le_succ h1]
def BehPost (v:List NodeL) (w:World) (e:Ending) (w':World):Prop:=
 Below w.heap.size w w'∧((treeI v=false∧e=.returned (.slice none 0 0))∨
  (treeI v=true∧∃g es,e=.returned (.slice (some ⟨g,0,none⟩) v.length v.length)∧w.heap.size≤g∧RowI w' g es∧es.length=v.length∧Filled v es 0 v.length))
theorem make_row (W:World) (n:Nat) (hn:n≤512):(Instr.makeSlice 121 (.int .i64 (n:Int)) (.int .i64 (n:Int))).run Tryz.prog W=.ok (.slice (some ⟨W.heap.size,0,none⟩) n n) (W.alloc (.cells (ints .i64 (List.replicate n 0)).toArray 3)):=by
 obtain⟨i0,hi,hz0,hz1,hz2⟩:=info_parts info_i64
 have h:=run_make (P:=Tryz.prog) W 121 3 i0 (.int .i64 0) Tryz.underlying121 hi hz0 .i64 .i64 n n (by omega) (by omega) (by rw [hz2];omega) (by omega)
 rw [hz1,Nat.mul_one] at h
 rw [←made_i64]
 simpa [Value.cells] using h
theorem Cl.drew {w0:World} {Bv Bw Be G N c:Nat} {A:Option Addr} {W:World} (h:Cl w0 Bv Bw Be G N c A W):Cl w0 Bv Bw Be G N c A W.drew:=⟨h.low.drew,h.cv,h.cw,h.ce,h.h0,h.h1,h.h2,h.h3⟩
theorem var_new (w:World) (v:Value) (t:TypeId):VarE (w.alloc (.cells #[v] t)) w.heap.size v:=⟨t,heap_alloc_new w _⟩
theorem VarE.alloc {w:World} {g:Nat} {v:Value} (h:VarE w g v) (o:Obj):VarE (w.alloc o) g v:=h.ext ((Below.refl _ _).alloc (Nat.le_refl _) _)
theorem behind_cl (w : World) (A : Option Addr) (N c : Nat) (t1 t2 t3 : TypeId) (es : List Int) : ∃ W1, W1 = ((((w.alloc (.cells #[.slice A N c] t1)).alloc (.cells (ints .i64 es).toArray t2)).alloc (.cells #[.slice (some ⟨w.heap.size + 1, 0, none⟩) N N] t3)).alloc
      (.cells #[.func (.func 142) #[] #[.pointer (some ⟨w.heap.size, 0, none⟩), .pointer (some ⟨w.heap.size + 1 + 1 + 1, 0, none⟩), .pointer (some ⟨w.heap.size + 1 + 1, 0, none⟩)]] 170)) ∧
    Cl w w.heap.size (w.heap.size + 1 + 1 + 1) (w.heap.size + 1 + 1) (w.heap.size + 1) N c A W1 ∧ RowI W1 (w.heap.size + 1) es := by
  refine ⟨_, rfl, ⟨?_, ?_, ?_, ?_, by omega, by omega, by omega, by omega⟩, ?_⟩
  · exact ((((Below.refl _ _).alloc (Nat.le_refl _) _).alloc (by simp) _).alloc (by simp; omega) _).alloc (by simp; omega) _
  · exact (((var_new w _ _).alloc _).alloc _).alloc _
  · have h := var_new (((w.alloc (.cells #[.slice A N c] t1)).alloc (.cells (ints .i64 es).toArray t2)).alloc (.cells #[.slice (some ⟨w.heap.size + 1, 0, none⟩) N N] t3)) (.func (.func 142) #[] #[.pointer (some ⟨w.heap.size, 0, none⟩), .pointer (some ⟨w.heap.size + 1 + 1 + 1, 0, none⟩), .pointer (some ⟨w.heap.size + 1 + 1, 0, none⟩)]) 170
    simpa using h
  · have h := var_new ((w.alloc (.cells #[.slice A N c] t1)).alloc (.cells (ints .i64 es).toArray t2)) (.slice (some ⟨w.heap.size + 1, 0, none⟩) N N) t3
    refine VarE.alloc ?_ _
    simpa using h
  · have h : RowI ((w.alloc (.cells #[.slice A N c] t1)).alloc (.cells (ints .i64 es).toArray t2)) (w.heap.size + 1) es := by
      refine ⟨t2, ?_⟩
      have h := heap_alloc_new (w.alloc (.cells #[.slice A N c] t1)) (.cells (ints .i64 es).toArray t2)
      simpa using h
    exact (h.ext ((Below.refl _ _).alloc (Nat.le_refl _) _)).ext ((Below.refl _ _).alloc (Nat.le_refl _) _)
set_option maxHeartbeats 4000000 in
set_option maxRecDepth 10000 in
theorem behind_any (v:List NodeL) (A:Option Addr) (c:Nat) (w:World) (hc:v.length≤c) (hz:SzV 1000000000 v) (hr:RdV w w.heap.size A v) :
  Calls Tryz.prog 86 #[.slice A v.length c] w (BehPost v w):=by
 by_cases h0:v.length=0
 ·have HT:=treeI_not (.inl h0)
  have HTH:=Lib.hid HT
  clear HT
  rw [h0]
  go_enter Tryz.func86,Tryz.ntmps86
  go_wp2
  go_ret
  exact⟨(Below.refl _ _).alloc (Nat.le_refl _) _,.inl ⟨HTH.out,rfl⟩⟩
 ·have hnil:((v.length:Int) == 0)=false:=by rw [beq_eq_false_iff_ne];omega
  by_cases h512:512 < v.length
  ·have HTH:=Lib.hid (treeI_not (.inr (.inl h512)))
   have h512':(512:Int) < v.length:=by omega
   generalize v.length=N at *
   go_enter Tryz.func86,Tryz.ntmps86
   go_wp2
   go_ret
   exact⟨(Below.refl _ _).alloc (Nat.le_refl _) _,.inl ⟨HTH.out,rfl⟩⟩
  ·have h512':¬(512:Int) < v.length:=by omega
   obtain⟨n,hn⟩:∃n,v[0]? = some n:=⟨_,List.getElem?_eq_getElem (by omega)⟩
   obtain⟨b,off,rfl,hb,hcc⟩:=hr (by omega)
   have c0:=(hcc 0 n hn).1
   rw [Nat.zero_mul,Nat.add_zero] at c0
   have hne:b≠w.heap.size:=by omega
   have hpos:(0:Int) < v.length:=by omega
   by_cases hk:n.kind=1
   ·rw [hk] at c0
    have HN:=Lib.hid hn
    have HK:=Lib.hid hk
    have HR:=Lib.hid hr
    have hmk:=make_row (w.alloc (.cells #[.slice (some ⟨b,off,none⟩) v.length c] 22)) v.length (by omega)
    have HZ:=Lib.hid hz
    obtain⟨W1,hW1,hcl,hrow⟩:=behind_cl w (some ⟨b,off,none⟩) v.length c 22 3 121 (List.replicate v.length 0)
    have HCALL:=Lib.hid (fun W es (h1:Cl w w.heap.size (w.heap.size+1+1+1) (w.heap.size+1+1) (w.heap.size+1) v.length c (some ⟨b,off,none⟩) W) (h2:RowI W (w.heap.size+1) es) (h3:es.length=v.length)=>behind1_any v (some ⟨b,off,none⟩) c hc hz w w.heap.size (w.heap.size+1+1+1) (w.heap.size+1+1) (w.heap.size+1) hr 12 12 0 W es (Nat.le_refl _) rfl (Nat.zero_le _) h1 h2 h3)
    have hcld:=hcl.drew
    have hrowd:=hrow
    unfold EndPost at HCALL
    have eg:=enters_of (P:=Tryz.prog) Tryz.func142 (by kernel_rfl) rfl
    have cv:=hcl.cv.cell
    have cw:=hcl.cw.cell
    have hlen:=hz.1
    have HW1:=Lib.hid hW1
    clear hn hk hr hcc hz hcl hrow hW1
    go_enter Tryz.func86,Tryz.ntmps86
    go_wp2
    rw [←HW1.out]
    have HCLD:=Lib.hid hcld
    have HROWD:=Lib.hid hrowd
    clear hcld hrowd cv cw HW1
    refine TI.wp_region_typed (I:=fun i W=>if i=0 then Cl w w.heap.size (w.heap.size+1+1+1) (w.heap.size+1+1) (w.heap.size+1) v.length c (some ⟨b,off,none⟩) W∧∃es,RowI W (w.heap.size+1) es∧es.length=v.length else ∃es,RowI W (w.heap.size+1) es∧es.length=v.length∧∀e,endN v 12 0=some e→Filled v es 0 e) rfl (by kernel_rfl) (by kernel_rfl) ?_
    have hI:∀W,TI.Ext (fun i W=>if i=0 then Cl w w.heap.size (w.heap.size+1+1+1) (w.heap.size+1+1) (w.heap.size+1) v.length c (some ⟨b,off,none⟩) W∧∃es,RowI W (w.heap.size+1) es∧es.length=v.length else ∃es,RowI W (w.heap.size+1) es∧es.length=v.length∧∀e,endN v 12 0=some e→Filled v es 0 e) W1.drew W→
      Cl w w.heap.size (w.heap.size+1+1+1) (w.heap.size+1+1) (w.heap.size+1) v.length c (some ⟨b,off,none⟩) W∧∃es,RowI W (w.heap.size+1) es∧es.length=v.length:=fun W hW=>by
     have h:=hW 0 (by simp only [if_true];exact⟨HCLD.out,_,HROWD.out,by simp⟩)
     simpa using h
    have HI:=Lib.hid hI
    clear hI
    refine TI.tw_op1 (x:=.tmp 4) (c:=.pointer (some ⟨w.heap.size+1+1+1,0,none⟩)) (.func (.func 142) #[] #[.pointer (some ⟨w.heap.size,0,none⟩),.pointer (some ⟨w.heap.size+1+1+1,0,none⟩),.pointer (some ⟨w.heap.size+1+1,0,none⟩)]) rfl rfl (TI.wd_none rfl) (fun ρ W hW h1=>by
     have h2:=(HI.out W hW).1.cw.cell
     simp only [execOp,h1];go_simp) ?_
    refine TI.tw_clo #[.int .i64 0,.int .i64 12] (.inr fun u W=>u=.int .i64 (placeI (endN v 12 0))∧∃es,RowI W (w.heap.size+1) es∧es.length=v.length∧∀e,endN v 12 0=some e→Filled v es 0 e) ?_ rfl rfl (fun W=>eg _ W) rfl (TI.wd_none rfl) (fun W hW=>?_) ?_
    ·intro u W W' h hx
     have h2:=hx 1 (by simpa using h.2)
     exact⟨h.1,by simpa using h2⟩
    ·obtain⟨hc1,es,hr1,hl1⟩:=HI.out W hW
     refine(HCALL.out W es hc1 hr1 hl1).mono ?_
     rintro e w2 ⟨rfl,hC2,es2,hR2,hL2,hP2,hF2⟩
     refine⟨_,rfl,fun i hi=>?_,rfl,es2,hR2,hL2,hF2⟩
     by_cases h0:i=0
     ·simp only [h0,if_true]
      exact⟨hC2,es2,hR2,hL2⟩
     ·simp only [h0,if_false]
      exact⟨es2,hR2,hL2,hF2⟩
    refine TI.tw_op1 (x:=.tmp 1) (c:=.pointer (some ⟨w.heap.size,0,none⟩)) (.slice (some ⟨b,off,none⟩) v.length c) rfl rfl (TI.wd_none rfl) (fun ρ W hW h1=>by
     have h2:=(HI.out W hW).1.cv.cell
     simp only [execOp,h1];go_simp) ?_
    refine TI.tw_op1 (x:=.tmp 26) (c:=.slice (some ⟨b,off,none⟩) v.length c) (.int .i64 (v.length:Int)) rfl rfl (TI.wd_none rfl) (fun ρ W hW h1=>by
     simp only [execOp,resolve,invoke,builtin,Sem.run_bind,Sem.run_pure,Result.andThen_ok,List.map_toArray,List.map_cons,List.map_nil,h1];go_simp) ?_
    refine TI.tw_op2p (s:=25) (y:=.tmp 27) (c:=.int .i64 (placeI (endN v 12 0))) (e:=.int .i64 (v.length:Int)) (.bool (placeI (endN v 12 0) != (v.length:Int))) rfl rfl (fun u W h=>h.1) rfl (TI.wd_none rfl) (fun ρ W hW h1 h2=>by
     simp only [execOp,h1,h2];go_simp) ?_
    dsimp only [TI.wpT,List.reverse,List.reverseAux,TI.FinT]
    intro u W hW hF
    simp only [Act.put,List.setIfInBounds_toArray,List.set_cons_zero,List.set_cons_succ]
    obtain⟨hc1,-⟩:=HI.out W hW
    obtain⟨rfl,es,hr1,hl1,hf1⟩:=hF.2
    have HC1:=Lib.hid hc1
    have HR1:=Lib.hid hr1
    have HL1:=Lib.hid hl1
    have HF1:=Lib.hid hf1
    have ce:=hc1.ce.cell
    clear hc1 hr1 hl1 hf1 hW HCALL HI
    cases hen:endN v 12 0 with
    | none=>
     have HT:=Lib.hid (treeI_not (v:=v) (.inr (.inr (.inr (by rw [hen];simp)))))
     have hq:((-1:Int) != (v.length:Int))=true:=by rw [bne_iff_ne];omega
     unfold placeI
     clear hen
     go_wp2
     go_ret
     exact⟨HC1.out.low,.inl ⟨HT.out,rfl⟩⟩
    | some e=>
     by_cases he:e=v.length
     ·subst he
      have HT:=Lib.hid (treeI_yes (by omega) HN.out HK.out hen)
      have HE:=Lib.hid hen
      unfold placeI
      clear hen
      go_wp2
      go_ret
      exact⟨HC1.out.low,.inr ⟨HT.out,_,es,rfl,by omega,HR1.out,HL1.out,HF1.out _ HE.out⟩⟩
     ·have HT:=Lib.hid (treeI_not (v:=v) (.inr (.inr (.inr (by rw [hen];simpa using he)))))
      have hq:((e:Int) != (v.length:Int))=true:=by rw [bne_iff_ne];omega
      unfold placeI
      clear hen
      go_wp2
      go_ret
      exact⟨HC1.out.low,.inl ⟨HT.out,rfl⟩⟩
   ·have hk':(n.kind != 1)=true:=by simpa using hk
    have HTH:=Lib.hid (treeI_not (.inr (.inr (.inl ⟨n,hn,hk⟩))))
    clear hk hn hr hcc
    generalize v.length=N at *
    go_enter Tryz.func86,Tryz.ntmps86
    go_wp2
    go_ret
    exact⟨(Below.refl _ _).alloc (Nat.le_refl _) _,.inl ⟨HTH.out,rfl⟩⟩
end Go.Proofs.YtnmnpnofdgdigaaGreatDoor
end
section
namespace Go.Proofs.YtnmnpnofdgdigaaGreatDoor
open Go.RowKit
set_option linter.unusedSimpArgs false
set_option linter.unusedVariables false
def treeErr (v:List NodeL):Int:=if treeI v then 0 else 8
theorem tcheck_any (v:List NodeL) (A:Option Addr) (c:Nat) (w:World) (hc:v.length≤c) (hz:SzV 1000000000 v) (hr:RdV w w.heap.size A v) :
  Calls Tryz.prog 76 #[.slice A v.length c] w fun e w'=>e=.returned (.int .i64 (treeErr v))∧Below w.heap.size w w':=by
 have H:=Lib.hid (behind_any v A c w hc hz hr)
 have hq:=fun W a n m=>eql_nil (P:=Tryz.prog) W 121 3 a n m Tryz.underlying121
 unfold BehPost at H
 clear hr hz hc
 generalize v.length=N at *
 go_enter Tryz.func76,Tryz.ntmps76
 go_wp2_with fail
 refine H.out.mono ?_
 rintro e w1 ⟨hb,⟨ht,rfl⟩|⟨ht,g,es,rfl,-⟩⟩
 all_goals
  have X:=Lib.hid hb
  have HT:=Lib.hid ht
  clear hb ht
  go_wp2
  go_ret
  exact⟨ret_int (by unfold treeErr;rw [HT.out];rfl),X.out⟩
def AskPost (v:List NodeL) (w:World) (e:Ending) (w':World):Prop:=
 ∃g es,e=.returned (.tuple #[.slice (some ⟨g,0,none⟩) v.length v.length,.int .i64 0])∧Below w.heap.size w w'∧w.heap.size≤g∧RowI w' g es∧es.length=v.length∧Filled v es 0 v.length
theorem asked_any (v:List NodeL) (A:Option Addr) (c i:Nat) (w:World) (hc:v.length≤c) (hz:SzV 1000000000 v) (hr:RdV w w.heap.size A v) (ht:treeI v=true) (hi:i < v.length) :
  Calls Tryz.prog 130 #[.slice A v.length c,.int .i64 (i:Int)] w (AskPost v w):=by
 have H:=Lib.hid (behind_any v A c w hc hz hr)
 have hq:=fun W a n m=>eql_nil (P:=Tryz.prog) W 121 3 a n m Tryz.underlying121
 unfold BehPost at H
 have HT:=Lib.hid ht
 have hi0:¬(i:Int) < 0:=by omega
 have hi1:¬(v.length:Int)≤(i:Int):=by omega
 have hin:(i:Int) < (v.length:Int):=by omega
 clear hr hz hc ht
 go_enter Tryz.func130,Tryz.ntmps130
 go_wp2_with fail
 refine H.out.mono ?_
 rintro e w1 ⟨hb,⟨ht,rfl⟩|⟨ht,g,es,rfl,h1,h2,h3,h4⟩⟩
 ·rw [HT.out] at ht;cases ht
 ·have X:=Lib.hid hb
  have Y1:=Lib.hid h1
  have Y2:=Lib.hid h2
  have Y3:=Lib.hid h3
  have Y4:=Lib.hid h4
  clear hb ht h1 h2 h3 h4
  go_wp2
  go_ret2
  exact⟨g,es,rfl,X.out,Y1.out,Y2.out,Y3.out,Y4.out⟩
theorem own_mono {w:World} {base base' s n:Nat} {e:TypeId} {v:Value} {xs:List Value} (h:w.ownsRow base e s v n xs) (hb:base'≤base):w.ownsRow base' e s v n xs:=by
 refine⟨h.1,?_⟩
 rcases h.2 with h1|⟨g,cap,cur,h1,h2,h3⟩
 ·exact .inl h1
 ·exact .inr ⟨g,cap,cur,h1,by omega,h3⟩
def KidsPost (v:List NodeL) (i:Nat) (w:World) (e:Ending) (w':World):Prop:=
 ∃u,e=.returned (.tuple #[u,.int .i64 0])∧w'.ownsRow w.heap.size 3 1 u (kidsI v i).length (ints .i64 ((kidsI v i).map fun k:Nat=>(k:Int)))∧Below w.heap.size w w'
set_option maxHeartbeats 4000000 in
set_option maxRecDepth 10000 in
theorem kids_any (v:List NodeL) (A:Option Addr) (c i:Nat) (w:World) (hc:v.length≤c) (hz:SzV 1000000000 v) (hr:RdV w w.heap.size A v) (ht:treeI v=true) (hi:i < v.length) :
  Calls Tryz.prog 77 #[.slice A v.length c,.int .i64 (i:Int)] w (KidsPost v i w):=by
 have H:=Lib.hid (asked_any v A c i w hc hz hr ht hi)
 unfold AskPost at H
 obtain⟨e,he,hie,hel⟩:=tree_ends ht hi
 have hN:=(tree_parts ht).2.1
 have HCH:=Lib.hid (chain_start he)
 have hme:=((chain_start he).lt (by omega)).1
 have HE:=Lib.hid he
 have HK:Hid (kidsI v i=kidL v (manyN v i) (i+1)):=rfl
 clear hr hz hc ht he
 generalize manyN v i=m at *
 go_enter Tryz.func77,Tryz.ntmps77
 go_wp2_with fail
 refine H.out.mono ?_
 rintro e1 w1 ⟨g,es,rfl,hb,hg,hrow,hel2,hfi⟩
 have X:=Lib.hid hb
 have HG:=hg
 have HROW:=Lib.hid hrow
 have HFI:=Lib.hid hfi
 have HEL:=Lib.hid hel2
 have hgs:=row_lt hrow.choose_spec
 clear hb hrow hfi hel2
 go_wp2
 go_loopw [4,7] (fun s4 s7 wr=>∃(j:Nat),j≤m∧s7=.int .i64 (kidP v j (i+1):Nat)∧Hid (Below w1.heap.size w1 wr)∧Hid (wr.ownsRow w1.heap.size 3 1 s4 j (ints .i64 ((kidL v j (i+1)).map fun k:Nat=>(k:Int))))) (fun _ s7 _=>e - (intOf s7).toNat)
 case atStart=>exact⟨0,Nat.zero_le _,by unfold kidP;go_num,Lib.hid (Below.refl _ _),World.ownsRow_nil _ _ _ _⟩
 case round=>
  obtain⟨j,hj,rfl,HB,HO⟩:=hrel
  obtain⟨hch,hple⟩:=kidP_chain (by decide) (by omega) HCH.out j hj
  obtain⟨A4,c4,rfl⟩:=own_form HO.out
  have HROWr:Hid (RowI wr g es):=HROW.out.ext HB.out
  obtain⟨q,hq1,hq2⟩:=HFI.out i (Nat.zero_le _) hi
  rw [HE.out] at hq2
  simp only [Option.some.injEq] at hq2
  subst hq2
  have d0:=HROWr.out.cell hq1
  by_cases hlt:j < m
  ·rw [show m - j=(m - (j+1))+1 by omega] at hch
   have hl:=hch.lt hple
   obtain⟨x,hx,hlx,hlv,hxv,hch2⟩:=hch.step (by decide)
   have hl2:=hch2.lt hxv
   obtain⟨q,hq3,hq4⟩:=HFI.out _ (Nat.zero_le _) hlv
   rw [hx] at hq4
   simp only [Option.some.injEq] at hq4
   subst hq4
   have HS:Hid (kidL v (j+1) (i+1)=kidL v j (i+1)++[kidP v j (i+1)]):=kidL_succ v j (i+1)
   have HP:Hid (kidP v (j+1) (i+1)=x):=by show _=_;rw [kidP,hx];rfl
   clear hq1 hch hch2 hx
   generalize kidP v j (i+1)=p at *
   have ho:=HO.out
   have hsz:=HB.out.size
   have hrn:Rd (wr.alloc (.cells #[.int .i64 (p:Int)] 3)) (wr.heap.size+1) 1 (some ⟨wr.heap.size,0,none⟩) 1 (ints .i64 [(p:Int)]):=rd_int1 wr _ _ _
   have HRN:=Lib.hid hrn
   have HOA:=Lib.hid (ho.alloc (.cells #[.int .i64 (p:Int)] 3))
   have HQ3:=Lib.hid hq3
   clear ho hrn hq3
   go_wp2_with (at_builtin;refine app_i64s rfl _ _ rfl w1.heap.size _ j _ rfl HOA.out _ _ _ _ _ rfl HRN.out (by omega) (by simp;omega) ?_)
   intro v4 w4 hown4 hg4 hbk
   have HX4:Hid (Below w1.heap.size w1 w4):=(HB.out.alloc hsz _).grown hg4 (by simp;omega) (fun q hq=>(HO.out.lt q hq).1)
   have HO4:=Lib.hid hown4
   have d1:=(HROW.out.ext HX4.out).cell HQ3.out
   clear hown4 hg4 hbk d0
   go_wp2
   go_roundw
   case rel=>exact⟨j+1,by omega,by rw [HP.out],HX4,by rw [HS.out,List.map_append];exact HO4.out⟩
   case measure=>simp [intOf];omega
  ·obtain rfl:j=m:=by omega
   rw [Nat.sub_self] at hch
   have hpe:=hch.zero
   have HLEN:Hid ((kidL v j (i+1)).length=j):=kidL_len _ _ _
   rw [hpe]
   clear hq1 hch hpe
   go_wp2
   go_ret2
   exact⟨_,rfl,by rw [show kidsI v i=_ from HK.out,HLEN.out];exact own_mono HO.out X.out.size,X.out.trans (HB.out.mono X.out.size)⟩
theorem size_nodes (W:World):(sizeOf (Tryz.prog.elem 22)).run Tryz.prog W=.ok 6 W:=by kernel_rfl
theorem mid_nodes (A:Option Addr) (m c i j:Nat) (hij:i≤j) (hj:j≤m) (hc:m≤c):∃A',(∀W,(Instr.slice 22 (.slice A m c) (some (.int .i64 (i:Int))) (some (.int .i64 (j:Int))) none).run Tryz.prog W=.ok (.slice A' (j - i) (c - i)) W)∧
  ∀W B (v:List NodeL),v.length=m→RdV W B A v→RdV W B A' ((v.drop i).take (j - i)):=by
 refine⟨if c=i then A else A.map (·.add (i*6)),fun W=>?_,fun W B v hl h=>?_⟩
 ·rw [run_slice_lh W 22 A m c (by kernel_rfl) .i64 .i64 i j (by omega) (by omega) (by omega),size_nodes]
  rfl
 ·intro h0
  rw [List.length_take,List.length_drop] at h0
  obtain⟨b,off,rfl,hb,hcell⟩:=h (by omega)
  rw [if_neg (by omega)]
  refine⟨b,off+i*6,by simp [Addr.add],hb,fun k n hk=>?_⟩
  rw [List.getElem?_take] at hk
  split at hk
  ·rw [List.getElem?_drop] at hk
   have:=hcell (i+k) n hk
   rwa [show off+i*6+k*6=off+(i+k)*6 by rw [Nat.add_mul];omega]
  ·cases hk
def SubPost (v:List NodeL) (i:Nat) (w:World) (e:Ending) (w':World):Prop:=
 ∃A' c',e=.returned (.tuple #[.slice A' (partI v i).length c',.int .i64 0])∧(partI v i).length≤c'∧NewV w.heap.size w' A' c' (partI v i)∧Below w.heap.size w w'
theorem NewV.mono {base base':Nat} {w:World} {A:Option Addr} {c:Nat} {v:List NodeL} (h:NewV base w A c v) (hb:base'≤base):NewV base' w A c v:=by
 obtain⟨l,h1,h2,h3⟩:=h
 refine⟨l,h1,own_mono h2 hb,fun i x hi=>⟨(h3 i x hi).1,fun h0=>?_⟩⟩
 obtain⟨b,off,e1,e2,e3⟩:=(h3 i x hi).2 h0
 exact⟨b,off,e1,by omega,e3⟩
set_option maxHeartbeats 4000000 in
set_option maxRecDepth 10000 in
theorem sub_any (v:List NodeL) (A:Option Addr) (c i:Nat) (w:World) (hc:v.length≤c) (hz:SzV 1000000000 v) (hr:RdV w w.heap.size A v) (ht:treeI v=true) (n:NodeL) (hn:v[i]? = some n) (hk:n.kind=1) :
  Calls Tryz.prog 79 #[.slice A v.length c,.int .i64 (i:Int)] w (SubPost v i w):=by
 have hi:=(List.getElem?_eq_some_iff.1 hn).1
 have H:=Lib.hid (asked_any v A c i w hc hz hr ht hi)
 unfold AskPost at H
 obtain⟨e,he,hie,hel⟩:=tree_ends ht hi
 have hN:=(tree_parts ht).2.1
 have HPL:Hid ((partI v i).length=e - i):=part_len he
 have HPD:Hid (partI v i=(v.drop i).take (e - i)):=by show _=_;unfold partI;rw [he];rfl
 have HE:=Lib.hid he
 have HPZ:Hid (SzV 1000000000 (partI v i)):=⟨by rw [HPL.out];omega,part_sz hz.2⟩
 have HR:=Lib.hid hr
 obtain⟨b,off,rfl,hb,hcc⟩:=hr (by omega)
 have c0:=(hcc i n hn).1
 rw [hk] at c0
 have HC0:=Lib.hid c0
 have hin:(i:Int) < (v.length:Int):=by omega
 obtain⟨A2,hsl,hrd⟩:=mid_nodes (some ⟨b,off,none⟩) v.length c i e (by omega) hel hc
 have HRD:=Lib.hid hrd
 have hci:¬c=i:=by omega
 clear hz hc ht he hn hcc hrd hr c0
 unfold SubPost
 go_enter Tryz.func79,Tryz.ntmps79
 go_wp2_with fail
 refine H.out.mono ?_
 rintro e1 w1 ⟨g,es,rfl,hb1,hg,hrow,hel2,hfi⟩
 have X:=Lib.hid hb1
 have HROW:=Lib.hid hrow
 have c0:=(hb1.cell (p:=⟨b,off+i*6,none⟩) hb).trans HC0.out
 obtain⟨q,hq1,hq2⟩:=hfi i (Nat.zero_le _) hi
 rw [HE.out] at hq2
 simp only [Option.some.injEq] at hq2
 subst hq2
 have d0:=hrow.cell hq1
 have htw:=twin_any A2 (c - i) (partI v i) w1 (by rw [HPD.out];exact((HRD.out w1 w.heap.size v rfl (HR.out.below hb1 (Nat.le_refl _)))).more hb1.size) HPZ.out
 rw [HPL.out] at htw
 have HTW:=Lib.hid htw
 unfold TwinPost at HTW
 rw [HPL.out] at HTW
 clear hb1 hrow hfi hel2 hq1 htw
 generalize e - i=K at *
 go_wp2_with fail
 refine HTW.out.mono ?_
 rintro e2 w2 ⟨A3,c3,rfl,hl3,hnew,hb2⟩
 have Y1:=Lib.hid hl3
 have Y2:=Lib.hid hnew
 have X2:=Lib.hid hb2
 clear hl3 hnew hb2
 go_wp2
 go_ret2
 exact⟨A3,c3,by rw [HPL.out];rfl,by rw [HPL.out];exact Y1.out,Y2.out.mono X.out.size,X.out.trans (X2.out.mono X.out.size)⟩
end Go.Proofs.YtnmnpnofdgdigaaGreatDoor
end
section
namespace Go.Proofs.YtnmnpnofdgdigaaGreatDoor
open Go.RowKit
set_option linter.unusedSimpArgs false
set_option linter.unusedVariables false
set_option maxHeartbeats 4000000 in
set_option maxRecDepth 10000 in
theorem refmay10_any (v:List NodeL) (A:Option Addr) (c:Nat) (w:World) (hc:v.length≤c) (hz:SzV 1000000000 v) (hr:RdV w w.heap.size A v) :
  Calls Tryz.prog 82 #[.slice A v.length c] w fun e w'=>e=.returned (.bool (treeI v))∧Below w.heap.size w w':=by
 by_cases h0:v.length=0
 ·have HT:Hid (treeI v=false):=treeI_not (.inl h0)
  rw [h0]
  generalize treeI v=r at *
  go_enter Tryz.func82,Tryz.ntmps82
  go_wp2
  go_ret
  exact⟨ret_bool HT.out.symm,Below.refl _ _⟩
 ·have hpos:(0:Int) < v.length:=by omega
  have hpos':decide ((0:Int) < v.length)=true:=decide_eq_true hpos
  by_cases h512:512 < v.length
  ·have HT:Hid (treeI v=false):=treeI_not (.inr (.inl h512))
   have h512':¬(v.length:Int)≤512:=by omega
   generalize treeI v=r at *
   generalize v.length=N at *
   go_enter Tryz.func82,Tryz.ntmps82
   go_wp2
   go_ret
   exact⟨ret_bool HT.out.symm,Below.refl _ _⟩
  ·have h512':(v.length:Int)≤512:=by omega
   obtain⟨n,hn⟩:∃n,v[0]? = some n:=⟨_,List.getElem?_eq_getElem (by omega)⟩
   have HB:=Lib.hid (refbehind_any v A c hc hz 12 1 0 w (Nat.le_refl _) (by omega) (Nat.zero_le _) hr)
   unfold BehindPost at HB
   obtain⟨b,off,rfl,hb,hcc⟩:=hr (by omega)
   have c0:=(hcc 0 n hn).1
   rw [Nat.zero_mul,Nat.add_zero] at c0
   by_cases hk:n.kind=1
   ·rw [hk] at c0
    cases hen:endN v 12 0 with
    | none=>
     have HT:Hid (treeI v=false):=treeI_not (v:=v) (.inr (.inr (.inr (by rw [hen];simp))))
     have hq:((-1:Int) == (v.length:Int))=false:=by rw [beq_eq_false_iff_ne];omega
     rw [hen] at HB
     unfold placeI at HB
     clear hen hcc hn hz hr
     generalize treeI v=r at *
     generalize v.length=N at *
     go_enter Tryz.func82,Tryz.ntmps82
     go_wp2_with (first
       | (go_at_call 138;refine(HB.out).mono ?_;rintro e w1 ⟨rfl,hb1⟩))
     go_ret
     exact⟨ret_bool HT.out.symm,hb1⟩
    | some e=>
     by_cases he:e=v.length
     ·subst he
      have HT:Hid (treeI v=true):=treeI_yes (by omega) hn hk hen
      rw [hen] at HB
      unfold placeI at HB
      clear hen hcc hn hz hr
      generalize treeI v=r at *
      generalize v.length=N at *
      go_enter Tryz.func82,Tryz.ntmps82
      go_wp2_with (first
        | (go_at_call 138;refine(HB.out).mono ?_;rintro e w1 ⟨rfl,hb1⟩))
      go_ret
      exact⟨ret_bool HT.out.symm,hb1⟩
     ·have HT:Hid (treeI v=false):=treeI_not (v:=v) (.inr (.inr (.inr (by rw [hen];simpa using he))))
      have hq:((e:Int) == (v.length:Int))=false:=by rw [beq_eq_false_iff_ne];omega
      rw [hen] at HB
      unfold placeI at HB
      clear hen hcc hn hz hr
      generalize treeI v=r at *
      generalize v.length=N at *
      go_enter Tryz.func82,Tryz.ntmps82
      go_wp2_with (first
        | (go_at_call 138;refine(HB.out).mono ?_;rintro e w1 ⟨rfl,hb1⟩))
      go_ret
      exact⟨ret_bool HT.out.symm,hb1⟩
   ·have HT:Hid (treeI v=false):=treeI_not (.inr (.inr (.inl ⟨n,hn,hk⟩)))
    have hk':(n.kind == 1)=false:=by simpa using hk
    clear hcc hn hz hr hk
    generalize treeI v=r at *
    generalize v.length=N at *
    go_enter Tryz.func82,Tryz.ntmps82
    go_wp2
    go_ret
    exact⟨ret_bool HT.out.symm,Below.refl _ _⟩
def UnderPost (v:List NodeL) (i:Nat) (w:World) (e:Ending) (w':World):Prop:=
 ∃u,e=.returned u∧w'.ownsRow w.heap.size 3 1 u (kidsI v i).length (ints .i64 ((kidsI v i).map fun k:Nat=>(k:Int)))∧Below w.heap.size w w'
set_option maxHeartbeats 4000000 in
set_option maxRecDepth 10000 in
theorem refunder_any (v:List NodeL) (A:Option Addr) (c i:Nat) (w:World) (hc:v.length≤c) (hz:SzV 1000000000 v) (hr:RdV w w.heap.size A v) (ht:treeI v=true) (hi:i < v.length) :
  Calls Tryz.prog 139 #[.slice A v.length c,.int .i64 (i:Int)] w (UnderPost v i w):=by
 obtain⟨e,he,hie,hel⟩:=tree_ends ht hi
 have hN:=(tree_parts ht).2.1
 have HCH:=Lib.hid (chain_start he)
 have hme:=((chain_start he).lt (by omega)).1
 have HK:Hid (kidsI v i=kidL v (manyN v i) (i+1)):=rfl
 obtain⟨n,hn,_,hn0,_⟩:=endN_inv he
 have hm:n.many=(manyN v i:Nat):=by unfold manyN;rw [hn];simp only;omega
 have HBH:=Lib.hid (fun nx W (h1:nx≤v.length) (h2:RdV W W.heap.size A v)=>refbehind_any v A c hc hz 12 1 nx W (Nat.le_refl _) (by omega) h1 h2)
 unfold BehindPost at HBH
 have HR:=Lib.hid hr
 obtain⟨b,off,rfl,hb,hcc⟩:=hr (by omega)
 obtain⟨A',c',hND,hac⟩:=nd_in (hcc i n hn) hb (Nat.le_refl _)
 have HD5:=Lib.hid (fun W hW=>(hND W hW).2.2.2.2.2.1)
 rw [hm] at HD5
 clear hz hc ht he hn hcc hND hm hr
 generalize manyN v i=m at *
 unfold UnderPost
 go_enter Tryz.func139,Tryz.ntmps139
 go_wp2
 go_loopw [5,6,7] (fun s5 s6 s7 wr=>∃(j:Nat),j≤m∧s7=.int .i64 j∧s6=.int .i64 (kidP v j (i+1):Nat)∧Hid (Below w.heap.size w wr)∧Hid (wr.ownsRow w.heap.size 3 1 s5 j (ints .i64 ((kidL v j (i+1)).map fun k:Nat=>(k:Int))))) (fun _ _ s7 _=>m - (intOf s7).toNat)
 case atStart=>exact⟨0,Nat.zero_le _,rfl,by unfold kidP;go_num,Lib.hid (Below.refl _ _),World.ownsRow_nil _ _ _ _⟩
 case round=>
  obtain⟨j,hj,rfl,rfl,HB,HO⟩:=hrel
  obtain⟨hch,hple⟩:=kidP_chain (by decide) (by omega) HCH.out j hj
  obtain⟨A4,c4,rfl⟩:=own_form HO.out
  have d5:=HD5.out _ HB.out
  by_cases hlt:j < m
  ·rw [show m - j=(m - (j+1))+1 by omega] at hch
   obtain⟨x,hx,hlx,hlv,hxv,hch2⟩:=hch.step (by decide)
   have HS:Hid (kidL v (j+1) (i+1)=kidL v j (i+1)++[kidP v j (i+1)]):=kidL_succ v j (i+1)
   have HP:Hid (kidP v (j+1) (i+1)=x):=by show _=_;rw [kidP,hx];rfl
   have HX:=Lib.hid hx
   clear hch hch2 hx
   generalize kidP v j (i+1)=p at *
   have ho:=HO.out
   have hsz:=HB.out.size
   have hrn:Rd (wr.alloc (.cells #[.int .i64 (p:Int)] 3)) (wr.heap.size+1) 1 (some ⟨wr.heap.size,0,none⟩) 1 (ints .i64 [(p:Int)]):=rd_int1 wr _ _ _
   have HRN:=Lib.hid hrn
   have HOA:=Lib.hid (ho.alloc (.cells #[.int .i64 (p:Int)] 3))
   clear ho hrn
   go_wp2_with (at_builtin;refine app_i64s rfl _ _ rfl w.heap.size _ j _ rfl HOA.out _ _ _ _ _ rfl HRN.out (by omega) (by simp;omega) ?_)
   intro v4 w4 hown4 hg4 hbk
   have HX4:Hid (Below w.heap.size w w4):=(HB.out.alloc hsz _).grown hg4 (by simp;omega) (fun q hq=>(HO.out.lt q hq).1)
   have HO4:=Lib.hid hown4
   have HCALL:=Lib.hid (HBH.out p w4 hple ((HR.out.below HX4.out (Nat.le_refl _)).more HX4.out.size))
   rw [HX.out] at HCALL
   unfold placeI at HCALL
   clear hown4 hg4 hbk d5
   go_wp2_with fail
   refine HCALL.out.mono ?_
   rintro e5 w5 ⟨rfl,hb5⟩
   have HX5:Hid (Below w.heap.size w w5):=HX4.out.trans (hb5.mono HX4.out.size)
   have HO5:=Lib.hid (own_keep HO4.out hb5)
   clear hb5
   go_wp2
   go_roundw
   case rel=>exact⟨j+1,by omega,by go_num,by rw [HP.out],HX5,by rw [HS.out,List.map_append];exact HO5.out⟩
   case measure=>simp [intOf];omega
  ·obtain rfl:j=m:=by omega
   have HLEN:Hid ((kidL v j (i+1)).length=j):=kidL_len _ _ _
   clear hch
   go_wp2
   go_ret
   exact⟨_,rfl,by rw [show kidsI v i=_ from HK.out,HLEN.out];exact HO.out,HB.out⟩
def PartPost (v:List NodeL) (i:Nat) (w:World) (e:Ending) (w':World):Prop:=
 ∃A' c',e=.returned (.slice A' (partI v i).length c')∧(partI v i).length≤c'∧NewV w.heap.size w' A' c' (partI v i)∧Below w.heap.size w w'
set_option maxHeartbeats 4000000 in
set_option maxRecDepth 10000 in
theorem refpart_any (v:List NodeL) (A:Option Addr) (c i:Nat) (w:World) (hc:v.length≤c) (hz:SzV 1000000000 v) (hr:RdV w w.heap.size A v) (ht:treeI v=true) (hi:i < v.length) :
  Calls Tryz.prog 140 #[.slice A v.length c,.int .i64 (i:Int)] w (PartPost v i w):=by
 obtain⟨e,he,hie,hel⟩:=tree_ends ht hi
 have HBH:=Lib.hid (refbehind_any v A c hc hz 12 1 i w (Nat.le_refl _) (by omega) (by omega) hr)
 unfold BehindPost at HBH
 rw [he] at HBH
 unfold placeI at HBH
 have HPL:Hid ((partI v i).length=e - i):=part_len he
 have HPD:Hid (partI v i=(v.drop i).take (e - i)):=by show _=_;unfold partI;rw [he];rfl
 have HPZ:Hid (SzV 1000000000 (partI v i)):=⟨by rw [HPL.out];have:=(tree_parts ht).2.1;omega,part_sz hz.2⟩
 have HR:=Lib.hid hr
 obtain⟨b,off,rfl,hb,hcc⟩:=hr (by omega)
 have hin:(i:Int) < (v.length:Int):=by omega
 obtain⟨A2,hsl,hrd⟩:=mid_nodes (some ⟨b,off,none⟩) v.length c i e (by omega) hel hc
 have HRD:=Lib.hid hrd
 have hci:¬c=i:=by omega
 clear hz hc ht he hcc hrd hr
 unfold PartPost
 go_enter Tryz.func140,Tryz.ntmps140
 go_wp2_with fail
 refine HBH.out.mono ?_
 rintro e1 w1 ⟨rfl,hb1⟩
 have X:=Lib.hid hb1
 have htw:=reftwin_any A2 (c - i) (partI v i) w1 (by rw [HPD.out];exact((HRD.out w1 w.heap.size v rfl (HR.out.below hb1 (Nat.le_refl _)))).more hb1.size) HPZ.out
 rw [HPL.out] at htw
 have HTW:=Lib.hid htw
 unfold TwinPost at HTW
 rw [HPL.out] at HTW
 clear hb1 htw
 generalize e - i=K at *
 go_wp2_with fail
 refine HTW.out.mono ?_
 rintro e2 w2 ⟨A3,c3,rfl,hl3,hnew,hb2⟩
 have Y1:=Lib.hid hl3
 have Y2:=Lib.hid hnew
 have X2:=Lib.hid hb2
 clear hl3 hnew hb2
 go_wp2
 go_ret
 exact⟨A3,c3,by rw [HPL.out];rfl,by rw [HPL.out];exact Y1.out,Y2.out.mono X.out.size,X.out.trans (X2.out.mono X.out.size)⟩
end Go.Proofs.YtnmnpnofdgdigaaGreatDoor
end
