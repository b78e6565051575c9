/- Part 40 of a proof laid in parts, one behind the other; no condition of its own. -/
import Derived.Test.YtnmnpnofdgdigaaGreatDoorZ39
import Derived.Deep.Cut
set_option linter.all false
section
namespace Go.Proofs.YtnmnpnofdgdigaaGreatDoor
open Go.RowKit
set_option linter.unusedSimpArgs false
set_option linter.unusedVariables false
theorem sameA_self (a:AttrL):sameA a a=true:=by simp [sameA]
theorem sameN_self (a:NodeL):sameN a a=true:=by simp [sameN,sameL_self sameA_self]
theorem sameS_self (s:StL):sameS s s=true:=by
 have h:∀v,sameV v v=true:=fun v=>sameL_self sameN_self v
 simp [sameS,sameL_self h]
theorem ask_groups {s:StL} (hz:SzS s):(askR s).groups.length≤1000000000:=by
 have h0:([]:List ByteArray).length≤1000000000:=by decide
 unfold askR
 split
 ·rename_i he
  cases hst:stnI s
  ·unfold askE at he
   rw [hst,if_neg (by decide)] at he
   exact absurd he (by decide)
  ·unfold askW
   split
   ·rename_i h1
    obtain⟨v,hv⟩:=List.length_eq_one_iff.1 h1
    have ht:treeI v=true:=stn_trees hst v (by rw [hv];simp)
    have hsv:=hz.2.2.2.2.2.2 v (by rw [hv];simp)
    rw [hv]
    show(askV s v).groups.length≤_
    unfold askV
    split
    ·exact h0
    ·split
     ·exact h0
     ·split
      ·rename_i h3
       unfold setW
       split
       ·exact h0
       ·show(groupsW (elemsI (itemV v))).length≤_
        have hone:(elemsI v).length=1:=by
         unfold oneIt at h3
         simp only [Bool.and_eq_true,decide_eq_true_eq] at h3
         exact h3.2.1
        obtain⟨x,hx⟩:=List.length_eq_one_iff.1 hone
        have hi:itemV v=x:=by unfold itemV;rw [hx];rfl
        have hxm:x∈elemsI v:=by rw [hx];simp
        rw [hi]
        have:=(elems_szw ((elems_szw hsv ht).2 x hxm) (elems_tree ht x hxm)).1
        unfold groupsW
        rw [List.length_map]
        exact Nat.le_trans (List.length_filter_le _ _) this
      ·exact h0
   ·exact h0
 ·exact h0
def SlTw (base:Nat) (v:List NodeL):Ty:=.inr fun u W=>∃g A c,u=.slice (some ⟨g,0,none⟩) 1 1∧W.heap[g]? = some (.cells #[.slice A v.length c] 22 (0,0))∧v.length≤c∧NewV base W A c v
theorem stable_sltw (base:Nat) (v:List NodeL):Stable (SlTw base v):=fun u W W' h hx=>by
 obtain⟨g,A,c,h1,h2,h3,h4⟩:=h
 exact⟨g,A,c,h1,heap_ext h2 hx,h3,h4.ext hx⟩
section
variable {ops:Array Oper} {w0:World} {Fin:List Ty→Prop} {rest:List Oper} {E:Env} {Ts:List Ty} {o:Oper}
theorem tw_twin {x:Operand} {ts:Array TypeId} (base:Nat) (v:List NodeL) (A:Option Addr) (c:Nat) (hb:base≤w0.heap.size) (hz:SzV 1000000000 v) (hl:∀W,Ext w0 W→RdV W W.heap.size A v) (hop:o.op=.call { callee:=.value (.func 7),args:=#[x],argTypes:=ts}) (hx:evalE E x=some (.slice A v.length c)) (hw:Wd ops o E true)
  (hr:wpT Tryz.prog ops w0 Fin rest (E.put o.dst (NwT base v)) (NwT base v :: Ts)):wpT Tryz.prog ops w0 Fin (o :: rest) E Ts:=
 tw_fn #[.slice A v.length c] (NwT base v) (stable_nwt _ _) hop (fun W=>enters_of (P:=Tryz.prog) Tryz.func7 (by kernel_rfl) rfl _ W) (by simp [hx]) hw
  (fun W hW=>(reftwin_any A c v W (hl W hW) hz).mono fun e w' h=>by
   obtain⟨A',c',h1,h2,h3,h4⟩:=h
   exact⟨_,h1,h4,A',c',rfl,h2,h3.mono (Nat.le_trans hb hW.size)⟩) hr
theorem tw_newTw {m:Tmp} {base:Nat} {v:List NodeL} (hop:o.op=.buildSlice 25 1 #[(0,.tmp m)]) (hE:E m=NwT base v) (hw:Wd ops o E true)
  (hr:wpT Tryz.prog ops w0 Fin rest (E.put o.dst (SlTw base v)) (SlTw base v :: Ts)):wpT Tryz.prog ops w0 Fin (o :: rest) E Ts:=
 tw_val (SlTw base v) (stable_sltw _ _) hw (fun ac W hW hs=>by
  have h1:=hs m (looks_of (x:=.tmp m) (by rw [hop];simp [Op.operands]) rfl)
  rw [hE] at h1
  obtain⟨A,c,e1,e2,e3⟩:=h1
  have h2:ac.eval (.tmp m)=.slice A v.length c:=e1
  have hx:Below W.heap.size W (W.alloc (.cells #[.slice A v.length c] 22)):=(Below.refl _ _).alloc (Nat.le_refl _) _
  refine⟨.slice (some ⟨W.heap.size,0,none⟩) 1 1,W.alloc (.cells #[.slice A v.length c] 22),?_,hx,W.heap.size,A,c,rfl,heap_alloc_new W _,e2,e3.ext hx⟩
  unfold execOp
  simp only [hop,List.map_toArray,List.map_cons,List.map_nil,h2]
  go_simp) hr
set_option maxRecDepth 10000 in
theorem tw_ldWt {x:Operand} {g:Nat} {t:WantL} {A:Option Addr} {c:Nat} (hop:o.op=.load 56 x) (hE:evalE E x=some (.pointer (some ⟨g,0,none⟩))) (hc:∀W,Ext w0 W→Row W g (cW t A c)) (hw:Wd ops o E true)
  (hr:wpT Tryz.prog ops w0 Fin rest (E.put o.dst (.inl (encW t A c))) (.inl (encW t A c) :: Ts)):wpT Tryz.prog ops w0 Fin (o :: rest) E Ts:=
 tw_pure (encW t A c) hw (fun a W hW hs=>by
  have h1:a.eval x=.pointer (some ⟨g,0,none⟩):=evalE_of hE (by rw [hop];simp [Op.operands]) hs
  obtain⟨tt,h2⟩:=hc W hW
  have h3:=run_loadVar_row (P:=Tryz.prog) W g tt 56 _ (0,0) _ h2 Tryz.underlying56 rfl (by kernel_rfl)
  unfold execOp
  have h4:(Instr.sureAddr (.pointer (some ⟨g,0,none⟩))).run Tryz.prog W=.ok ⟨g,0,none⟩ W:=by first|rfl|(go_simp;done)|(simp [Instr.sureAddr,asAddr];done)
  simp only [hop,h1,Instr.loadAt,Sem.run_bind,Sem.run_pure,Result.andThen_ok,h4,h3]
  rfl) hr
end
theorem rd_t1 {W:World} {g:Nat} {x:TreeH} (h:W.heap[g]? = some (.cells #[cT x] 22 (0,0))):Rd W (g+1) 1 (some ⟨g,0,none⟩) 1 (cellsT [x]):=by
 refine⟨rfl,fun _=>⟨g,0,rfl,Nat.lt_succ_self _,fun j u hu=>?_⟩⟩
 rw [Nat.zero_add,cell_of_row W g j _ _ _ h]
 simpa [cellsT] using hu
theorem tell_start (s o:StL) (A Ao:Option Addr) (c co:Nat) (w:World):∃W0,W0=(w.alloc (.cells #[.int .u8 s.kind,.string s.typ,.string s.id,.string s.frm,.string s.to,.slice A s.load.length c] 27)).alloc (.cells #[.int .u8 o.kind,.string o.typ,.string o.id,.string o.frm,.string o.to,.slice Ao o.load.length co] 27)∧
  Below w.heap.size w W0∧W0.heap.size=w.heap.size+2∧SAt W0 w.heap.size s A c∧SAt W0 (w.heap.size+1) o Ao co:=by
 refine⟨_,rfl,((Below.refl _ _).alloc (Nat.le_refl _) _).alloc (by simp) _,by simp,?_,?_⟩
 ·exact(SAt.new w _ _ _ _).ext ((Below.refl _ _).alloc (Nat.le_refl _) _)
 ·exact⟨_,al_at (w.alloc (.cells #[.int .u8 s.kind,.string s.typ,.string s.id,.string s.frm,.string s.to,.slice A s.load.length c] 27)) _ _ _ (by simp) (Below.refl _ _)⟩
end Go.Proofs.YtnmnpnofdgdigaaGreatDoor
end
section
namespace Go.Proofs.YtnmnpnofdgdigaaGreatDoor
open Go.RowKit
set_option linter.unusedSimpArgs false
set_option linter.unusedVariables false
set_option maxHeartbeats 32000000 in
set_option maxRecDepth 100000 in
theorem stanzatells_walk (s o:StL) (A Ao:Option Addr) (c co:Nat) (word:ByteArray) (w:World) (hz:SzS s) (hzo:SzS o) (hwd:word.size≤1000000000) (hr:RdW w w.heap.size A s.load) (hro:RdW w w.heap.size Ao o.load) (hg:Glb w) :
  Calls Tryz.prog 4 #[encS s A c,encS o Ao co,.string word] w fun e w'=>e=.returned (.bool true)∧Below w.heap.size w w':=by
 obtain⟨W0,hW0,hX0,hs0,hS0,hO0⟩:=tell_start s o A Ao c co w
 have S:=Lib.hid hS0
 have O:=Lib.hid hO0
 have RS:=Lib.hid (RdW.ext hr hX0)
 have RO:=Lib.hid (RdW.ext hro hX0)
 have GL:=Lib.hid (hg.below hX0)
 have X:=Lib.hid hX0
 have HZ:=Lib.hid hz
 have HZO:=Lib.hid hzo
 have HWD:=Lib.hid hwd
 have HC:=Lib.hid (great22_any s A c W0 hz RS.out)
 unfold GreatS at HC
 have hln:=hz.2.2.2.2.2.1
 clear hX0 hS0 hO0 hr hro hg hz hzo hwd
 unfold encS at *
 go_enter Tryz.func4,Tryz.ntmps4
 go_upto_region 1 with fail
 rw [←hW0]
 clear hW0
 have a0:=S.out.c0
 have a1:=S.out.c1
 have a2:=S.out.c2
 have a3:=S.out.c3
 have a4:=S.out.c4
 have a5:=S.out.c5
 have b0:=O.out.c0
 have b1:=O.out.c1
 have b2:=O.out.c2
 have b3:=O.out.c3
 have b4:=O.out.c4
 have b5:=O.out.c5
 go_wp2_with fail
 refine HC.out.mono ?_
 rintro e w1 ⟨g1,rfl,hb,hsm⟩
 replace S:=Lib.hid (S.out.ext hb)
 replace O:=Lib.hid (O.out.ext hb)
 replace RS:=Lib.hid (RdW.ext RS.out hb)
 replace RO:=Lib.hid (RdW.ext RO.out hb)
 replace GL:=Lib.hid (GL.out.below hb)
 replace X:=Lib.hid (X.out.trans (hb.mono X.out.size))
 have hs1:=X.out.size
 clear hb HC
 clear a0 a1 a2 a3 a4 a5 b0 b1 b2 b3 b4 b5
 cases g1 with
 | true=>
  clear hsm
  go_wp2
  go_ret
  exact⟨rfl,X.out⟩
 | false=>
  have HSM:=Lib.hid (hsm rfl)
  have HC:=Lib.hid (great22_any o Ao co w1 HZO.out RO.out)
  unfold GreatS encS at HC
  clear hsm
  have b0:=O.out.c0
  have b1:=O.out.c1
  have b2:=O.out.c2
  have b3:=O.out.c3
  have b4:=O.out.c4
  have b5:=O.out.c5
  go_wp2_with fail
  refine HC.out.mono ?_
  rintro e w2 ⟨g2,rfl,hb,-⟩
  replace S:=Lib.hid (S.out.ext hb)
  replace O:=Lib.hid (O.out.ext hb)
  replace RS:=Lib.hid (RdW.ext RS.out hb)
  replace RO:=Lib.hid (RdW.ext RO.out hb)
  replace GL:=Lib.hid (GL.out.below hb)
  replace X:=Lib.hid (X.out.trans (hb.mono X.out.size))
  have hsb:=hb.size
  clear hb HC
  clear b0 b1 b2 b3 b4 b5
  cases g2 with
  | true=>
   go_wp2
   go_ret
   exact⟨rfl,X.out⟩
  | false=>
   by_cases h5:500 < word.size
   ·have h5i:(500:Int) < (word.size:Int):=by omega
    go_wp2
    go_ret
    exact⟨rfl,X.out⟩
   ·have h5i:¬(500:Int) < (word.size:Int):=by omega
    have hlts:w.heap.size < w2.heap.size:=S.out.lt
    have hlto:w.heap.size+1 < w2.heap.size:=O.out.lt
    have a0:=S.out.c0
    have a1:=S.out.c1
    have a2:=S.out.c2
    have a3:=S.out.c3
    have a4:=S.out.c4
    have a5:=S.out.c5
    obtain⟨W3,hW3⟩:∃W3,W3=w2.alloc (.cells #[.int .u8 s.kind,.string s.typ,.string s.id,.string s.frm,.string s.to,.slice none 0 0] 27):=⟨_,rfl⟩
    have HB3:Hid (Below w2.heap.size w2 W3):=Lib.hid (by rw [hW3];exact(Below.refl _ _).alloc (Nat.le_refl _) _)
    have HR3:Hid (Row W3 w2.heap.size #[.int .u8 s.kind,.string s.typ,.string s.id,.string s.frm,.string s.to,.slice none 0 0]):=Lib.hid (by rw [hW3];exact Row.new w2 _ _)
    have HZ3:Hid (RowZ (w2.heap.size+1) (.slice none 0 0) W3 []):=Lib.hid (RowZ.nil _ _)
    go_upto_region 5 with fail
    rw [←hW3]
    clear a0 a1 a2 a3 a4 a5
    clear hW3
    go_wp2
    go_loopw [8] (fun s8 wr=>∃(i:Nat) (ts:List TreeH) (Aq:Option Addr) (cq:Nat),i≤s.load.length∧s8=.int .i64 i∧Hid (ts.length=i)∧Hid (Below w2.heap.size w2 wr)∧Hid (ts.map (·.1)=s.load.take i)∧Hid (Row wr w2.heap.size #[.int .u8 s.kind,.string s.typ,.string s.id,.string s.frm,.string s.to,.slice Aq ts.length cq])∧Hid (RowZ (w2.heap.size+1) (.slice Aq ts.length cq) wr ts)) (fun s8 _=>s.load.length - (intOf s8).toNat)
    case atStart=>exact⟨0,[],none,0,Nat.zero_le _,rfl,Lib.hid rfl,HB3,Lib.hid rfl,HR3,HZ3⟩
    case round=>
     obtain⟨i,ts,Aq,cq,hi,rfl,hti,HB,HM,HR,HZR⟩:=hrel
     clear HB3 HR3 HZ3
     have hgl:w2.heap.size < wr.heap.size:=HR.out.lt
     have Sr:=Lib.hid (S.out.extB HB.out hlts)
     by_cases hlt:i < s.load.length
     ·obtain⟨v,hv⟩:∃v,s.load[i]? = some v:=⟨_,List.getElem?_eq_getElem hlt⟩
      obtain⟨b,off,rfl,hb,hcc⟩:=(RdW.ext RS.out HB.out) (by omega)
      obtain⟨A',c',e0,hl',hA'⟩:=hcc i v hv
      have GS:=Lib.hid (fun W (hW:Ext wr.drew W)=>((ext_below hW).cell (p:=⟨w.heap.size,5,none⟩) (Nat.lt_trans hlts hgl)).trans Sr.out.c5)
      have GQ:=Lib.hid (fun W (hW:Ext wr.drew W)=>((ext_below hW).cell (p:=⟨w2.heap.size,5,none⟩) hgl).trans (HR.out.at' 5 rfl))
      have G0:=Lib.hid (fun W (hW:Ext wr.drew W)=>((ext_below hW).cell (p:=⟨b,off+i,none⟩) hb).trans e0)
      have GV:=Lib.hid (fun W (hW:Ext wr.drew W)=>(hA'.below (ext_below hW) (Nat.le_refl _)).more (ext_below hW).size)
      have hzv:=Lib.hid (HZ.out.2.2.2.2.2.2 v (List.mem_of_getElem? hv))
      have HTK:Hid (s.load.take (i+1)=s.load.take i++[v]):=Lib.hid (by rw [List.take_add_one,hv];rfl)
      have a5:=Sr.out.c5
      clear hcc hA' e0 hv
      go_wp2_with fail
      refine wp_region_typed_tail 9 rfl (by kernel_rfl) (by kernel_rfl) (by kernel_rfl) ?_
      repeat (first|refine tw_ldW rfl rfl GQ.out (wdA rfl) ?_|refine tw_ldW rfl rfl GS.out (wdA rfl) ?_|refine tw_ixW hlt hln rfl rfl rfl (wdA rfl) ?_|refine tw_ldV rfl rfl G0.out (wdA rfl) ?_|refine tw_twin wr.heap.size v A' c' (Nat.le_refl _) hzv.out GV.out rfl rfl (wdA rfl) ?_|refine tw_newTw rfl rfl (wdA rfl) ?_|refine tw_skip (wd_no rfl rfl rfl) ?_|refine tw_mv (.inl rfl) rfl (wdA rfl) ?_|refine tw_mv (.inr rfl) rfl (wdA rfl) ?_|refine tw_pickL rfl rfl rfl (wdA rfl) ?_|refine tw_op1 _ rfl rfl (wdA rfl) (fun ρ W hW h1=>by simp only [execOp,h1];go_simp;first|done|rfl) ?_|refine tw_op2 _ rfl rfl rfl (wdA rfl) (fun ρ W hW h1 h2=>by simp only [execOp,h1,h2];go_simp;first|done|rfl) ?_)
      dsimp only [wpT,List.reverse,List.reverseAux,FinT,SlTw,NwT,List.take,List.drop]
      intro u54 u55 W5 hW5 hu
      obtain⟨-,g9,A9,c9,rfl,hg9,hl9,hn9⟩:=hu
      simp only [Act.put,List.setIfInBounds_toArray,List.set_cons_zero,List.set_cons_succ]
      have hb5:Below wr.heap.size wr W5:=ext_below hW5
      have hs5:=hb5.size
      have HZ5:=Lib.hid (HZR.out.ext hb5)
      have HR5:=Lib.hid (HR.out.ext hb5)
      have HB5:=Lib.hid (HB.out.trans (hb5.mono HB.out.size))
      have HRN:=Lib.hid (rd_t1 (x:=(v,A9,c9)) hg9)
      have HT:Hid (v.length≤c9∧(0 < v.length→NewVX (w2.heap.size+1) (.slice Aq ts.length cq) W5 A9 c9 v)):=Lib.hid ⟨hl9,fun h0=>NewVX.of hn9 h0 hgl (fun g hg=>(HZR.out.1.lt g hg).2)⟩
      clear hW5 hg9 hl9 hn9 hb5 GS GQ G0 GV a5 hzv
      go_wp2_with (at_builtin;refine app_trees rfl _ _ rfl (w2.heap.size+1) _ ts.length ts rfl HZ5.out.1 _ _ _ _ [(v,A9,c9)] rfl HRN.out (by have:=hti.out;omega) (by omega) ?_)
      intro v2 w6 ow2 hg2 hbk
      obtain⟨A2,c2,rfl⟩:=own_form ow2
      have HZ6:=Lib.hid (RowZ.app HZ5.out HT.out ow2 hg2 hbk)
      have k2:=Lib.hid ((Below.refl (w2.heap.size+1) W5).grown hg2 (by omega) (fun q hq=>(HZ5.out.1.lt q hq).1))
      have HR6:=Lib.hid (HR5.out.extB k2.out (Nat.lt_succ_self _))
      have HB6:=Lib.hid (HB5.out.trans (k2.out.mono (by omega)))
      have e5:=HR6.out.at' 5 rfl
      have f5:=HR6.out.fz 5
      clear ow2 hg2 hbk HZ5 HR5 HB5 k2 HRN HT
      go_wp2
      go_roundw
      case rel=>
       refine⟨i+1,ts++[(v,A9,c9)],A2,c2,by omega,by go_num,Lib.hid (by rw [List.length_append,hti.out];rfl),Lib.hid (HB6.out.setCell (p:=⟨w2.heap.size,5,none⟩) (Nat.le_refl _) _),Lib.hid (by rw [List.map_append,HM.out,HTK.out];rfl),Lib.hid ?_,Lib.hid ?_⟩
       ·have h:=HR6.out.set 5 (.slice A2 (ts.length+1) c2)
        simp only [List.setIfInBounds_toArray,List.set_cons_zero,List.set_cons_succ] at h
        rw [List.length_append]
        exact h
       ·have h:=HZ6.out.set (o:=5) (x:=.slice A2 (ts.length+1) c2) (Nat.lt_succ_self w2.heap.size)
        rw [List.length_append]
        exact h
      case measure=>simp [intOf];omega
     ·obtain rfl:i=s.load.length:=by omega
      have RQ:Hid (RdW wr wr.heap.size Aq s.load):=Lib.hid (by have h:=HZR.out.rdw rfl;rw [HM.out,List.take_length] at h;exact h)
      have G:Hid (SAt wr w2.heap.size s Aq cq):=Lib.hid (by have h:=HR.out;rw [hti.out] at h;exact h)
      have a5:=Sr.out.c5
      replace S:=Sr
      replace O:=Lib.hid (O.out.extB HB.out hlto)
      replace RS:=Lib.hid (RdW.ext RS.out HB.out)
      replace RO:=Lib.hid (RdW.ext RO.out HB.out)
      replace GL:=Lib.hid (GL.out.below HB.out)
      replace X:=Lib.hid (X.out.trans (HB.out.mono X.out.size))
      have HBZ:=Lib.hid (build_szv HZ.out)
      have HFZ:=Lib.hid (fail_szw (s:=s) HWD.out)
      have HSD:Hid (∀v∈s.load,SmallV5 v):=Lib.hid (fun v hv=>by
       obtain⟨j,hj,rfl⟩:=List.mem_iff_getElem.1 hv
       exact HSM.out.2 j _ hj (List.getElem?_eq_getElem hj))
      have HPS:=Lib.hid (fun(h:stnI s=true) v (hv:v∈s.load)=>said_small (stn_trees h v hv) (HSD.out v hv))
      have HAS:=Lib.hid (fun(h:stnI s=true)=>ask_small h HSD.out)
      clear HR HZR HM HB hgl hti HSM HSD
      have HC:=Lib.hid (build_any s Aq cq wr HZ.out RQ.out GL.out)
      unfold BuildPost encS at HC
      have a0:=G.out.c0
      have a1:=G.out.c1
      have a2:=G.out.c2
      have a3:=G.out.c3
      have a4:=G.out.c4
      have a5:=G.out.c5
      go_wp2_with fail
      refine HC.out.mono ?_
      rintro e w3 ⟨A1,c1,rfl,hl1,hn1,hb⟩
      replace S:=Lib.hid (S.out.ext hb)
      replace O:=Lib.hid (O.out.ext hb)
      replace RS:=Lib.hid (RdW.ext RS.out hb)
      replace RO:=Lib.hid (RdW.ext RO.out hb)
      replace GL:=Lib.hid (GL.out.below hb)
      replace X:=Lib.hid (X.out.trans (hb.mono X.out.size))
      replace RQ:=Lib.hid (RdW.ext RQ.out hb)
      replace G:=Lib.hid (G.out.ext hb)
      have V1:=Lib.hid hn1.rdv
      clear hn1 hl1 a5
      clear hb HC
      clear a0 a1 a2 a3 a4 a5
      have HC:=Lib.hid (refbuild_any s A c w3 HZ.out RS.out)
      unfold BuildPost encS at HC
      have a0:=S.out.c0
      have a1:=S.out.c1
      have a2:=S.out.c2
      have a3:=S.out.c3
      have a4:=S.out.c4
      have a5:=S.out.c5
      go_wp2_with fail
      refine HC.out.mono ?_
      rintro e w4 ⟨A2,c2,rfl,hl2,hn2,hb⟩
      replace S:=Lib.hid (S.out.ext hb)
      replace O:=Lib.hid (O.out.ext hb)
      replace RS:=Lib.hid (RdW.ext RS.out hb)
      replace RO:=Lib.hid (RdW.ext RO.out hb)
      replace GL:=Lib.hid (GL.out.below hb)
      replace X:=Lib.hid (X.out.trans (hb.mono X.out.size))
      replace RQ:=Lib.hid (RdW.ext RQ.out hb)
      replace G:=Lib.hid (G.out.ext hb)
      replace V1:=Lib.hid ((V1.out.below hb (Nat.le_refl _)).more hb.size)
      have V2:=Lib.hid hn2.rdv
      clear hn2 hl2
      clear hb HC
      clear a0 a1 a2 a3 a4 a5
      have HC:=Lib.hid (sfail_any s Aq cq word w4 HZ.out RQ.out HWD.out GL.out)
      unfold FailsPost encS at HC
      have a0:=G.out.c0
      have a1:=G.out.c1
      have a2:=G.out.c2
      have a3:=G.out.c3
      have a4:=G.out.c4
      have a5:=G.out.c5
      go_wp2_with fail
      refine HC.out.mono ?_
      rintro e w5 ⟨A3,c3,rfl,hl3,hn3,hb⟩
      replace S:=Lib.hid (S.out.ext hb)
      replace O:=Lib.hid (O.out.ext hb)
      replace RS:=Lib.hid (RdW.ext RS.out hb)
      replace RO:=Lib.hid (RdW.ext RO.out hb)
      replace GL:=Lib.hid (GL.out.below hb)
      replace X:=Lib.hid (X.out.trans (hb.mono X.out.size))
      replace RQ:=Lib.hid (RdW.ext RQ.out hb)
      replace G:=Lib.hid (G.out.ext hb)
      replace V1:=Lib.hid ((V1.out.below hb (Nat.le_refl _)).more hb.size)
      replace V2:=Lib.hid ((V2.out.below hb (Nat.le_refl _)).more hb.size)
      have RC:=Lib.hid hn3.now
      clear hn3 hl3
      clear hb HC
      clear a0 a1 a2 a3 a4 a5
      obtain⟨W5,hWa⟩:∃W5,W5=w5.alloc (.cells #[.int .u8 (failR s word).kind,.string (failR s word).typ,.string (failR s word).id,.string (failR s word).frm,.string (failR s word).to,.slice A3 (failR s word).load.length c3] 27):=⟨_,rfl⟩
      have hb:Below w5.heap.size w5 W5:=by rw [hWa];exact(Below.refl _ _).alloc (Nat.le_refl _) _
      have C:Hid (SAt W5 w5.heap.size (failR s word) A3 c3):=Lib.hid (by rw [hWa];exact SAt.new _ _ _ _ _)
      replace S:=Lib.hid (S.out.ext hb)
      replace O:=Lib.hid (O.out.ext hb)
      replace RS:=Lib.hid (RdW.ext RS.out hb)
      replace RO:=Lib.hid (RdW.ext RO.out hb)
      replace GL:=Lib.hid (GL.out.below hb)
      replace X:=Lib.hid (X.out.trans (hb.mono X.out.size))
      replace RQ:=Lib.hid (RdW.ext RQ.out hb)
      replace G:=Lib.hid (G.out.ext hb)
      replace V1:=Lib.hid ((V1.out.below hb (Nat.le_refl _)).more hb.size)
      replace V2:=Lib.hid ((V2.out.below hb (Nat.le_refl _)).more hb.size)
      replace RC:=Lib.hid (RdW.ext RC.out hb)
      clear hb
      go_upto_region 12 with fail
      rw [←hWa]
      clear hWa
      have HC:=Lib.hid (reffail_any s A c word W5 HZ.out RS.out HWD.out)
      unfold FailsPost encS at HC
      have a0:=S.out.c0
      have a1:=S.out.c1
      have a2:=S.out.c2
      have a3:=S.out.c3
      have a4:=S.out.c4
      have a5:=S.out.c5
      go_wp2_with fail
      refine HC.out.mono ?_
      rintro e w6 ⟨A4,c4,rfl,hl4,hn4,hb⟩
      replace S:=Lib.hid (S.out.ext hb)
      replace O:=Lib.hid (O.out.ext hb)
      replace RS:=Lib.hid (RdW.ext RS.out hb)
      replace RO:=Lib.hid (RdW.ext RO.out hb)
      replace GL:=Lib.hid (GL.out.below hb)
      replace X:=Lib.hid (X.out.trans (hb.mono X.out.size))
      replace RQ:=Lib.hid (RdW.ext RQ.out hb)
      replace G:=Lib.hid (G.out.ext hb)
      replace V1:=Lib.hid ((V1.out.below hb (Nat.le_refl _)).more hb.size)
      replace V2:=Lib.hid ((V2.out.below hb (Nat.le_refl _)).more hb.size)
      replace RC:=Lib.hid (RdW.ext RC.out hb)
      replace C:=Lib.hid (C.out.ext hb)
      have RD:=Lib.hid hn4.now
      clear hn4 hl4
      clear hb HC
      clear a0 a1 a2 a3 a4 a5
      obtain⟨W6,hWa⟩:∃W6,W6=w6.alloc (.cells #[.int .u8 (failR s word).kind,.string (failR s word).typ,.string (failR s word).id,.string (failR s word).frm,.string (failR s word).to,.slice A4 (failR s word).load.length c4] 27):=⟨_,rfl⟩
      have hb:Below w6.heap.size w6 W6:=by rw [hWa];exact(Below.refl _ _).alloc (Nat.le_refl _) _
      have D:Hid (SAt W6 w6.heap.size (failR s word) A4 c4):=Lib.hid (by rw [hWa];exact SAt.new _ _ _ _ _)
      replace S:=Lib.hid (S.out.ext hb)
      replace O:=Lib.hid (O.out.ext hb)
      replace RS:=Lib.hid (RdW.ext RS.out hb)
      replace RO:=Lib.hid (RdW.ext RO.out hb)
      replace GL:=Lib.hid (GL.out.below hb)
      replace X:=Lib.hid (X.out.trans (hb.mono X.out.size))
      replace RQ:=Lib.hid (RdW.ext RQ.out hb)
      replace G:=Lib.hid (G.out.ext hb)
      replace V1:=Lib.hid ((V1.out.below hb (Nat.le_refl _)).more hb.size)
      replace V2:=Lib.hid ((V2.out.below hb (Nat.le_refl _)).more hb.size)
      replace RC:=Lib.hid (RdW.ext RC.out hb)
      replace C:=Lib.hid (C.out.ext hb)
      replace RD:=Lib.hid (RdW.ext RD.out hb)
      clear hb
      go_upto_region 13 with fail
      rw [←hWa]
      clear hWa
      have HC:=Lib.hid (sprio_any s Aq cq W6 HZ.out RQ.out GL.out HPS.out)
      unfold PrioPost encS at HC
      have a0:=G.out.c0
      have a1:=G.out.c1
      have a2:=G.out.c2
      have a3:=G.out.c3
      have a4:=G.out.c4
      have a5:=G.out.c5
      go_wp2_with fail
      refine HC.out.mono ?_
      rintro e w7 ⟨rfl,hb⟩
      replace S:=Lib.hid (S.out.ext hb)
      replace O:=Lib.hid (O.out.ext hb)
      replace RS:=Lib.hid (RdW.ext RS.out hb)
      replace RO:=Lib.hid (RdW.ext RO.out hb)
      replace GL:=Lib.hid (GL.out.below hb)
      replace X:=Lib.hid (X.out.trans (hb.mono X.out.size))
      replace RQ:=Lib.hid (RdW.ext RQ.out hb)
      replace G:=Lib.hid (G.out.ext hb)
      replace V1:=Lib.hid ((V1.out.below hb (Nat.le_refl _)).more hb.size)
      replace V2:=Lib.hid ((V2.out.below hb (Nat.le_refl _)).more hb.size)
      replace RC:=Lib.hid (RdW.ext RC.out hb)
      replace C:=Lib.hid (C.out.ext hb)
      replace RD:=Lib.hid (RdW.ext RD.out hb)
      replace D:=Lib.hid (D.out.ext hb)
      clear hb HC
      clear a0 a1 a2 a3 a4 a5
      have HC:=Lib.hid (refprio_any s A c w7 HZ.out RS.out HPS.out)
      unfold PrioPost encS at HC
      have a0:=S.out.c0
      have a1:=S.out.c1
      have a2:=S.out.c2
      have a3:=S.out.c3
      have a4:=S.out.c4
      have a5:=S.out.c5
      go_wp2_with fail
      refine HC.out.mono ?_
      rintro e w8 ⟨rfl,hb⟩
      replace S:=Lib.hid (S.out.ext hb)
      replace O:=Lib.hid (O.out.ext hb)
      replace RS:=Lib.hid (RdW.ext RS.out hb)
      replace RO:=Lib.hid (RdW.ext RO.out hb)
      replace GL:=Lib.hid (GL.out.below hb)
      replace X:=Lib.hid (X.out.trans (hb.mono X.out.size))
      replace RQ:=Lib.hid (RdW.ext RQ.out hb)
      replace G:=Lib.hid (G.out.ext hb)
      replace V1:=Lib.hid ((V1.out.below hb (Nat.le_refl _)).more hb.size)
      replace V2:=Lib.hid ((V2.out.below hb (Nat.le_refl _)).more hb.size)
      replace RC:=Lib.hid (RdW.ext RC.out hb)
      replace C:=Lib.hid (C.out.ext hb)
      replace RD:=Lib.hid (RdW.ext RD.out hb)
      replace D:=Lib.hid (D.out.ext hb)
      clear hb HC
      clear a0 a1 a2 a3 a4 a5
      have HC:=Lib.hid (ask_any s Aq cq w8 HZ.out RQ.out GL.out HAS.out)
      unfold AskP encS encW at HC
      have a0:=G.out.c0
      have a1:=G.out.c1
      have a2:=G.out.c2
      have a3:=G.out.c3
      have a4:=G.out.c4
      have a5:=G.out.c5
      go_wp2_with fail
      refine HC.out.mono ?_
      rintro e w9 ⟨A5,c5,rfl,hl5,hn5,hb⟩
      replace S:=Lib.hid (S.out.ext hb)
      replace O:=Lib.hid (O.out.ext hb)
      replace RS:=Lib.hid (RdW.ext RS.out hb)
      replace RO:=Lib.hid (RdW.ext RO.out hb)
      replace GL:=Lib.hid (GL.out.below hb)
      replace X:=Lib.hid (X.out.trans (hb.mono X.out.size))
      replace RQ:=Lib.hid (RdW.ext RQ.out hb)
      replace G:=Lib.hid (G.out.ext hb)
      replace V1:=Lib.hid ((V1.out.below hb (Nat.le_refl _)).more hb.size)
      replace V2:=Lib.hid ((V2.out.below hb (Nat.le_refl _)).more hb.size)
      replace RC:=Lib.hid (RdW.ext RC.out hb)
      replace C:=Lib.hid (C.out.ext hb)
      replace RD:=Lib.hid (RdW.ext RD.out hb)
      replace D:=Lib.hid (D.out.ext hb)
      have PG:=Lib.hid hn5.rds
      clear hn5 hl5
      clear hb HC
      clear a0 a1 a2 a3 a4 a5
      obtain⟨W9,hWa⟩:∃W9,W9=w9.alloc (.cells #[.int .u8 (askR s).kind,.string (askR s).res,.string (askR s).jid,.string (askR s).name,.slice A5 (askR s).groups.length c5,.bool false,.bool false,.bool false,.bool false,.bool false,.bool (askR s).gone] 56):=⟨_,rfl⟩
      have hb:Below w9.heap.size w9 W9:=by rw [hWa];exact(Below.refl _ _).alloc (Nat.le_refl _) _
      have PW:Hid (Row W9 w9.heap.size (cW (askR s) A5 c5)):=Lib.hid (by rw [hWa];exact Row.new _ _ _)
      replace S:=Lib.hid (S.out.ext hb)
      replace O:=Lib.hid (O.out.ext hb)
      replace RS:=Lib.hid (RdW.ext RS.out hb)
      replace RO:=Lib.hid (RdW.ext RO.out hb)
      replace GL:=Lib.hid (GL.out.below hb)
      replace X:=Lib.hid (X.out.trans (hb.mono X.out.size))
      replace RQ:=Lib.hid (RdW.ext RQ.out hb)
      replace G:=Lib.hid (G.out.ext hb)
      replace V1:=Lib.hid ((V1.out.below hb (Nat.le_refl _)).more hb.size)
      replace V2:=Lib.hid ((V2.out.below hb (Nat.le_refl _)).more hb.size)
      replace RC:=Lib.hid (RdW.ext RC.out hb)
      replace C:=Lib.hid (C.out.ext hb)
      replace RD:=Lib.hid (RdW.ext RD.out hb)
      replace D:=Lib.hid (D.out.ext hb)
      replace PG:=Lib.hid (RdS.ext PG.out hb)
      clear hb
      go_upto_region 16 with fail
      rw [←hWa]
      clear hWa
      have HC:=Lib.hid (refask_any s A c W9 HZ.out RS.out HAS.out)
      unfold AskP encS encW at HC
      have a0:=S.out.c0
      have a1:=S.out.c1
      have a2:=S.out.c2
      have a3:=S.out.c3
      have a4:=S.out.c4
      have a5:=S.out.c5
      go_wp2_with fail
      refine HC.out.mono ?_
      rintro e w10 ⟨A6,c6,rfl,hl6,hn6,hb⟩
      replace S:=Lib.hid (S.out.ext hb)
      replace O:=Lib.hid (O.out.ext hb)
      replace RS:=Lib.hid (RdW.ext RS.out hb)
      replace RO:=Lib.hid (RdW.ext RO.out hb)
      replace GL:=Lib.hid (GL.out.below hb)
      replace X:=Lib.hid (X.out.trans (hb.mono X.out.size))
      replace RQ:=Lib.hid (RdW.ext RQ.out hb)
      replace G:=Lib.hid (G.out.ext hb)
      replace V1:=Lib.hid ((V1.out.below hb (Nat.le_refl _)).more hb.size)
      replace V2:=Lib.hid ((V2.out.below hb (Nat.le_refl _)).more hb.size)
      replace RC:=Lib.hid (RdW.ext RC.out hb)
      replace C:=Lib.hid (C.out.ext hb)
      replace RD:=Lib.hid (RdW.ext RD.out hb)
      replace D:=Lib.hid (D.out.ext hb)
      replace PG:=Lib.hid (RdS.ext PG.out hb)
      replace PW:=Lib.hid (PW.out.ext hb)
      have QG:=Lib.hid hn6.rds
      clear hn6 hl6
      clear hb HC
      clear a0 a1 a2 a3 a4 a5
      obtain⟨W10,hWa⟩:∃W10,W10=w10.alloc (.cells #[.int .u8 (askR s).kind,.string (askR s).res,.string (askR s).jid,.string (askR s).name,.slice A6 (askR s).groups.length c6,.bool false,.bool false,.bool false,.bool false,.bool false,.bool (askR s).gone] 56):=⟨_,rfl⟩
      have hb:Below w10.heap.size w10 W10:=by rw [hWa];exact(Below.refl _ _).alloc (Nat.le_refl _) _
      have QW:Hid (Row W10 w10.heap.size (cW (askR s) A6 c6)):=Lib.hid (by rw [hWa];exact Row.new _ _ _)
      replace S:=Lib.hid (S.out.ext hb)
      replace O:=Lib.hid (O.out.ext hb)
      replace RS:=Lib.hid (RdW.ext RS.out hb)
      replace RO:=Lib.hid (RdW.ext RO.out hb)
      replace GL:=Lib.hid (GL.out.below hb)
      replace X:=Lib.hid (X.out.trans (hb.mono X.out.size))
      replace RQ:=Lib.hid (RdW.ext RQ.out hb)
      replace G:=Lib.hid (G.out.ext hb)
      replace V1:=Lib.hid ((V1.out.below hb (Nat.le_refl _)).more hb.size)
      replace V2:=Lib.hid ((V2.out.below hb (Nat.le_refl _)).more hb.size)
      replace RC:=Lib.hid (RdW.ext RC.out hb)
      replace C:=Lib.hid (C.out.ext hb)
      replace RD:=Lib.hid (RdW.ext RD.out hb)
      replace D:=Lib.hid (D.out.ext hb)
      replace PG:=Lib.hid (RdS.ext PG.out hb)
      replace PW:=Lib.hid (PW.out.ext hb)
      replace QG:=Lib.hid (RdS.ext QG.out hb)
      clear hb
      go_upto_region 17 with fail
      rw [←hWa]
      clear hWa
      have HC:=Lib.hid (same_one (buildV s) A1 A2 c1 c2 W10 V1.out V2.out HBZ.out)
      go_wp2_with fail
      refine HC.out.mono ?_
      rintro e w11 ⟨rfl,hb⟩
      replace S:=Lib.hid (S.out.ext hb)
      replace O:=Lib.hid (O.out.ext hb)
      replace RS:=Lib.hid (RdW.ext RS.out hb)
      replace RO:=Lib.hid (RdW.ext RO.out hb)
      replace GL:=Lib.hid (GL.out.below hb)
      replace X:=Lib.hid (X.out.trans (hb.mono X.out.size))
      replace RQ:=Lib.hid (RdW.ext RQ.out hb)
      replace G:=Lib.hid (G.out.ext hb)
      replace V1:=Lib.hid ((V1.out.below hb (Nat.le_refl _)).more hb.size)
      replace V2:=Lib.hid ((V2.out.below hb (Nat.le_refl _)).more hb.size)
      replace RC:=Lib.hid (RdW.ext RC.out hb)
      replace C:=Lib.hid (C.out.ext hb)
      replace RD:=Lib.hid (RdW.ext RD.out hb)
      replace D:=Lib.hid (D.out.ext hb)
      replace PG:=Lib.hid (RdS.ext PG.out hb)
      replace PW:=Lib.hid (PW.out.ext hb)
      replace QG:=Lib.hid (RdS.ext QG.out hb)
      replace QW:=Lib.hid (QW.out.ext hb)
      clear hb HC
      have HC:=Lib.hid (same22_one (failR s word) A3 A4 c3 c4 w11 RC.out RD.out HFZ.out)
      unfold encS at HC
      have a0:=C.out.c0
      have a1:=C.out.c1
      have a2:=C.out.c2
      have a3:=C.out.c3
      have a4:=C.out.c4
      have a5:=C.out.c5
      have b0:=D.out.c0
      have b1:=D.out.c1
      have b2:=D.out.c2
      have b3:=D.out.c3
      have b4:=D.out.c4
      have b5:=D.out.c5
      go_wp2_with fail
      refine HC.out.mono ?_
      rintro e w12 ⟨rfl,hb⟩
      replace S:=Lib.hid (S.out.ext hb)
      replace O:=Lib.hid (O.out.ext hb)
      replace RS:=Lib.hid (RdW.ext RS.out hb)
      replace RO:=Lib.hid (RdW.ext RO.out hb)
      replace GL:=Lib.hid (GL.out.below hb)
      replace X:=Lib.hid (X.out.trans (hb.mono X.out.size))
      replace RQ:=Lib.hid (RdW.ext RQ.out hb)
      replace G:=Lib.hid (G.out.ext hb)
      replace V1:=Lib.hid ((V1.out.below hb (Nat.le_refl _)).more hb.size)
      replace V2:=Lib.hid ((V2.out.below hb (Nat.le_refl _)).more hb.size)
      replace RC:=Lib.hid (RdW.ext RC.out hb)
      replace C:=Lib.hid (C.out.ext hb)
      replace RD:=Lib.hid (RdW.ext RD.out hb)
      replace D:=Lib.hid (D.out.ext hb)
      replace PG:=Lib.hid (RdS.ext PG.out hb)
      replace PW:=Lib.hid (PW.out.ext hb)
      replace QG:=Lib.hid (RdS.ext QG.out hb)
      replace QW:=Lib.hid (QW.out.ext hb)
      clear hb HC
      clear a0 a1 a2 a3 a4 a5 b0 b1 b2 b3 b4 b5
      go_wp2_with fail
      have ngr:(askR s).groups.length≤1000000000:=ask_groups HZ.out
      have GP:=Lib.hid (fun W (hW:Ext w12.drew W)=>PW.out.ext (ext_below hW))
      have GQ:=Lib.hid (fun W (hW:Ext w12.drew W)=>QW.out.ext (ext_below hW))
      have GG:=Lib.hid (fun W (hW:Ext w12.drew W)=>G.out.ext (ext_below hW))
      have GS:=Lib.hid (fun W (hW:Ext w12.drew W)=>S.out.ext (ext_below hW))
      have F1:=Lib.hid (fun W (hW:Ext w12.drew W)=>samewant_one (askR s) A5 A6 c5 c6 W (RdS.ext PG.out (ext_below hW)) (RdS.ext QG.out (ext_below hW)) ngr)
      have F2:=Lib.hid (fun W (hW:Ext w12.drew W)=>scheck_any s Aq cq W HZ.out (RdW.ext RQ.out (ext_below hW)) (GL.out.below (ext_below hW)))
      have F3:=Lib.hid (fun W (hW:Ext w12.drew W)=>refscheck_any s A c W HZ.out (RdW.ext RS.out (ext_below hW)))
      have E1:=Lib.hid (enters_of (P:=Tryz.prog) Tryz.func21 (by kernel_rfl) rfl)
      have E2:=Lib.hid (enters_of (P:=Tryz.prog) Tryz.func22 (by kernel_rfl) rfl)
      have E3:=Lib.hid (enters_of (P:=Tryz.prog) Tryz.func23 (by kernel_rfl) rfl)
      refine wp_region_typed rfl (by kernel_rfl) (by kernel_rfl) ?_
      repeat (first|refine tw_ldWt rfl rfl GP.out (wdA rfl) ?_|refine tw_ldWt rfl rfl GQ.out (wdA rfl) ?_|refine tw_ldSt rfl rfl GG.out (wdA rfl) ?_|refine tw_ldSt rfl rfl GS.out (wdA rfl) ?_|refine tw_fnB #[encW (askR s) A5 c5,encW (askR s) A6 c6] (.bool true) rfl (fun W=>E1.out _ W) rfl (wdA rfl) F1.out ?_|refine tw_fnB #[encS s Aq cq] (.int .i64 (stnErr s)) rfl (fun W=>E2.out _ W) rfl (wdA rfl) F2.out ?_|refine tw_fnB #[encS s A c] (.int .i64 (stnErr s)) rfl (fun W=>E3.out _ W) rfl (wdA rfl) F3.out ?_|refine tw_skip (wd_no rfl rfl rfl) ?_|refine tw_mv (.inl rfl) rfl (wdA rfl) ?_|refine tw_mv (.inr rfl) rfl (wdA rfl) ?_|refine tw_pickL rfl rfl rfl (wdA rfl) ?_|refine tw_op1 _ rfl rfl (wdA rfl) (fun ρ W hW h1=>by simp only [execOp,h1];go_simp;first|done|rfl) ?_|refine tw_op2 _ rfl rfl rfl (wdA rfl) (fun ρ W hW h1 h2=>by simp only [execOp,h1,h2];go_simp;first|done|rfl) ?_)
      dsimp only [wpT,List.reverse,List.reverseAux,FinT]
      intro W13 hW13 _
      simp only [Act.put,List.setIfInBounds_toArray,List.set_cons_zero,List.set_cons_succ]
      have hb:Below w12.heap.size w12 W13:=ext_below hW13
      replace S:=Lib.hid (S.out.ext hb)
      replace O:=Lib.hid (O.out.ext hb)
      replace RS:=Lib.hid (RdW.ext RS.out hb)
      replace RO:=Lib.hid (RdW.ext RO.out hb)
      replace GL:=Lib.hid (GL.out.below hb)
      replace X:=Lib.hid (X.out.trans (hb.mono X.out.size))
      replace RQ:=Lib.hid (RdW.ext RQ.out hb)
      replace G:=Lib.hid (G.out.ext hb)
      replace V1:=Lib.hid ((V1.out.below hb (Nat.le_refl _)).more hb.size)
      replace V2:=Lib.hid ((V2.out.below hb (Nat.le_refl _)).more hb.size)
      replace RC:=Lib.hid (RdW.ext RC.out hb)
      replace C:=Lib.hid (C.out.ext hb)
      replace RD:=Lib.hid (RdW.ext RD.out hb)
      replace D:=Lib.hid (D.out.ext hb)
      replace PG:=Lib.hid (RdS.ext PG.out hb)
      replace PW:=Lib.hid (PW.out.ext hb)
      replace QG:=Lib.hid (RdS.ext QG.out hb)
      replace QW:=Lib.hid (QW.out.ext hb)
      clear hb hW13 GP GQ GG GS F1 F2 F3 E1 E2 E3
      go_wp2_with fail
      have GG:=Lib.hid (fun W (hW:Ext W13.drew W)=>G.out.ext (ext_below hW))
      have GS:=Lib.hid (fun W (hW:Ext W13.drew W)=>S.out.ext (ext_below hW))
      have GO:=Lib.hid (fun W (hW:Ext W13.drew W)=>O.out.ext (ext_below hW))
      have F1:=Lib.hid (fun W (hW:Ext W13.drew W)=>ssame_any s o Aq Ao cq co W (RdW.ext RQ.out (ext_below hW)) (RdW.ext RO.out (ext_below hW)) HZ.out.2.2.2.2.2 HZO.out.2.2.2.2.2)
      have F2:=Lib.hid (fun W (hW:Ext W13.drew W)=>same22_any s o A Ao c co W (RdW.ext RS.out (ext_below hW)) (RdW.ext RO.out (ext_below hW)) HZ.out.2.2.2.2.2 HZO.out.2.2.2.2.2)
      have F3:=Lib.hid (fun W (hW:Ext W13.drew W)=>ssame_any s s Aq A cq c W (RdW.ext RQ.out (ext_below hW)) (RdW.ext RS.out (ext_below hW)) HZ.out.2.2.2.2.2 HZ.out.2.2.2.2.2)
      have F4:=Lib.hid (fun W (hW:Ext W13.drew W)=>same22_any s s Aq A cq c W (RdW.ext RQ.out (ext_below hW)) (RdW.ext RS.out (ext_below hW)) HZ.out.2.2.2.2.2 HZ.out.2.2.2.2.2)
      rw [sameS_self] at F3 F4
      generalize sameS s o=q at F1 F2
      have E1:=Lib.hid (enters_of (P:=Tryz.prog) Tryz.func24 (by kernel_rfl) rfl)
      have E2:=Lib.hid (enters_of (P:=Tryz.prog) Tryz.func10 (by kernel_rfl) rfl)
      cases q
      all_goals
       refine wp_region_typed rfl (by kernel_rfl) (by kernel_rfl) ?_
       repeat (first|refine tw_ldSt rfl rfl GG.out (wdA rfl) ?_|refine tw_ldSt rfl rfl GS.out (wdA rfl) ?_|refine tw_ldSt rfl rfl GO.out (wdA rfl) ?_|refine tw_fnB #[encS s Aq cq,encS o Ao co] _ rfl (fun W=>E1.out _ W) rfl (wdA rfl) F1.out ?_|refine tw_fnB #[encS s A c,encS o Ao co] _ rfl (fun W=>E2.out _ W) rfl (wdA rfl) F2.out ?_|refine tw_fnB #[encS s Aq cq,encS s A c] _ rfl (fun W=>E1.out _ W) rfl (wdA rfl) F3.out ?_|refine tw_fnB #[encS s Aq cq,encS s A c] _ rfl (fun W=>E2.out _ W) rfl (wdA rfl) F4.out ?_|refine tw_skip (wd_no rfl rfl rfl) ?_|refine tw_mv (.inl rfl) rfl (wdA rfl) ?_|refine tw_mv (.inr rfl) rfl (wdA rfl) ?_|refine tw_pickL rfl rfl rfl (wdA rfl) ?_|refine tw_op1 _ rfl rfl (wdA rfl) (fun ρ W hW h1=>by simp only [execOp,h1];go_simp;first|done|rfl) ?_|refine tw_op2 _ rfl rfl rfl (wdA rfl) (fun ρ W hW h1 h2=>by simp only [execOp,h1,h2];go_simp;first|done|rfl) ?_)
       dsimp only [wpT,List.reverse,List.reverseAux,FinT]
       intro W14 hW14 _
       simp only [Act.put,List.setIfInBounds_toArray,List.set_cons_zero,List.set_cons_succ]
       have XX:=Lib.hid (X.out.trans ((ext_below hW14).mono X.out.size))
       clear hW14 GG GS GO F1 F2 F3 F4 E1 E2
       go_wp2
       go_ret
       exact⟨rfl,XX.out⟩
end Go.Proofs.YtnmnpnofdgdigaaGreatDoor
end
