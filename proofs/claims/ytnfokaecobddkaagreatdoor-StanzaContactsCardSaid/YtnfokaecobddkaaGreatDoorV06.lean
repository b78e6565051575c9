/- Part 6 of a proof laid in parts, one behind the other; no condition of its own. -/
import Derived.Test.YtnfokaecobddkaaGreatDoorV05
import Derived.Test.YtnfokaecobddkaaGreatDoorV04
import Derived.Test.YtnfokaecobddkaaGreatDoorV03
set_option linter.all false
section
namespace Go.Proofs.YtnfokaecobddkaaGreatDoor
open Go.RowKit
set_option linter.unusedSimpArgs false
set_option linter.unusedVariables false
def OfT (set:ByteArray):Ty:=.inr fun u W=>∃B,u=.func (.func 143) #[] #[.pointer (some ⟨B,0,none⟩)]∧W.cell? ⟨B,0,none⟩=some (.string set)
theorem stable_of (set:ByteArray):Stable (OfT set):=by
 rintro u W W' ⟨B,h1,h2⟩ hx
 exact⟨B,h1,(Below.cell (p:=⟨B,0,none⟩) hx (World.block_lt_of_cell? W _ h2)).trans h2⟩
def FsT (s:ByteArray) (bs:List Bool):Ty:=.inr fun u W=>∃A c fs,u=.slice A fs.length c∧RdF W W.heap.size A fs∧fs.map (·.2)=bs∧fs.length≤3∧∀x∈fs,0 < s.size→s.size≤64→FnOK s W x.1 x.2
theorem stable_fs (s:ByteArray) (bs:List Bool):Stable (FsT s bs):=by
 rintro u W W' ⟨A,c,fs,h1,h2,h3,h4,h5⟩ hx
 have hx':Below W.heap.size W W':=hx
 refine⟨A,c,fs,h1,fun h=>?_,h3,h4,fun x hxf h0 h64=>(h5 x hxf h0 h64).later hx'⟩
 obtain⟨b,off,e1,e2,e3⟩:=h2 h
 exact⟨b,off,e1,Nat.lt_of_lt_of_le e2 hx'.size,fun i x hi=>(hx'.cell (p:=⟨b,off+i,none⟩) e2).trans (e3 i x hi)⟩
theorem fn_of (s set:ByteArray) (B:Nat) (W:World) (hs:s.size≤1000000000) (hc:set.size < 1000) (ha:set.data.toList.all (fun b=>decide (b.toNat < 128))=true) (hB:W.cell? ⟨B,0,none⟩=some (.string set)) :
  FnOK s W (.func (.func 143) #[] #[.pointer (some ⟨B,0,none⟩)]) (setAll set.data.toList s):=
 ⟨_,_,rfl,enters_of (P:=Tryz.prog) Tryz.func143 (by kernel_rfl) rfl,fun W' hW'=>(of1_any set s B W' hs hc ha ((hW'.cell (p:=⟨B,0,none⟩) (World.block_lt_of_cell? W _ hB)).trans hB)).mono fun e w' h=>⟨h.1,h.2⟩⟩
theorem fn_words (s:ByteArray) (W:World) (hs:s.size≤1000000000):FnOK s W (.func (.func 98) #[] #[]) (decide (textErr s=0) && seenI s):=
 ⟨_,_,rfl,enters_of (P:=Tryz.prog) Tryz.func98 (by kernel_rfl) rfl,fun W' _=>words_any s W' hs⟩
theorem fn_ends (s:ByteArray) (W:World) (hs:s.size≤1000000000) (h0:0 < s.size):FnOK s W (.func (.func 99) #[] #[]) (endsI s):=
 ⟨_,_,rfl,enters_of (P:=Tryz.prog) Tryz.func99 (by kernel_rfl) rfl,fun W' _=>(ends_any s W' hs h0).mono fun e w' h=>⟨h.1,by rw [←h.2];exact Below.refl _ _⟩⟩
theorem fn_dots (s:ByteArray) (W:World) (hs:s.size≤1000000000) (hg:Glb W):FnOK s W (.func (.func 100) #[] #[]) (dotsI s):=
 ⟨_,_,rfl,enters_of (P:=Tryz.prog) Tryz.func100 (by kernel_rfl) rfl,fun W' hW'=>(dots_any s W' hs (hg.below hW')).mono fun e w' h=>⟨h.1,by rw [←h.2];exact Below.refl _ _⟩⟩
section
variable {ops:Array Oper} {w0:World} {Fin:List Ty→Prop} {rest:List Oper} {E:Env} {Ts:List Ty} {o:Oper}
theorem tw_of {ts:Array TypeId} (set:ByteArray) (hop:o.op=.call { callee:=.value (.func 97),args:=#[.const (.string set)],argTypes:=ts}) (hw:Wd ops o E true)
  (hr:wpT Tryz.prog ops w0 Fin rest (E.put o.dst (OfT set)) (OfT set :: Ts)):wpT Tryz.prog ops w0 Fin (o :: rest) E Ts:=
 tw_fn #[.string set] (OfT set) (stable_of set) hop (fun W=>enters_of (P:=Tryz.prog) Tryz.func97 (by kernel_rfl) rfl _ W) rfl hw
  (fun W _=>(of_any set W).mono fun e w' h=>by
   obtain⟨B,h1,h2,h3,h4⟩:=h
   exact⟨_,h1,h4,B,rfl,h3⟩) hr
theorem tw_build1 {k:Tmp} (s set:ByteArray) (hc:set.size < 1000) (ha:set.data.toList.all (fun b=>decide (b.toNat < 128))=true) (hop:o.op=.buildSlice 191 1 #[(0,.tmp k)]) (hE:E k=OfT set) (hw:Wd ops o E true)
  (hr:wpT Tryz.prog ops w0 Fin rest (E.put o.dst (FsT s [setAll set.data.toList s])) (FsT s [setAll set.data.toList s] :: Ts)):wpT Tryz.prog ops w0 Fin (o :: rest) E Ts:=
 tw_val (FsT s [setAll set.data.toList s]) (stable_fs _ _) hw (fun a W hW hs'=>by
  have h1:=hs' k (looks_of (x:=.tmp k) (by rw [hop];simp [Op.operands]) rfl)
  rw [hE] at h1
  obtain⟨B,h1,h2⟩:=h1
  have h3:a.eval (.tmp k)=.func (.func 143) #[] #[.pointer (some ⟨B,0,none⟩)]:=h1
  have hx:Below W.heap.size W (W.alloc (.cells #[.func (.func 143) #[] #[.pointer (some ⟨B,0,none⟩)]] 56)):=(Below.refl _ _).alloc (Nat.le_refl _) _
  refine⟨.slice (some ⟨W.heap.size,0,none⟩) 1 1,W.alloc (.cells #[.func (.func 143) #[] #[.pointer (some ⟨B,0,none⟩)]] 56),?_,hx,some ⟨W.heap.size,0,none⟩,1,[(.func (.func 143) #[] #[.pointer (some ⟨B,0,none⟩)],setAll set.data.toList s)],rfl,fun _=>⟨W.heap.size,0,rfl,by simp,fun i x hi=>?_⟩,rfl,by simp,?_⟩
  ·clear h1 hs' hr
   generalize a.eval=ρ at *
   unfold execOp
   simp only [hop,h3]
   go_simp
  ·cases i with
   | zero=>simp at hi;subst hi;simp
   | succ i=>simp at hi
  ·intro x hxm h0 h64
   simp only [List.mem_singleton] at hxm
   subst hxm
   exact(fn_of s set B W (by omega) hc ha h2).later hx) hr
theorem tw_build3 {k:Tmp} (s set:ByteArray) (hc:set.size < 1000) (ha:set.data.toList.all (fun b=>decide (b.toNat < 128))=true) (hg:Glb w0) (hop:o.op=.buildSlice 191 3 #[(0,.tmp k),(1,.func 99),(2,.func 100)]) (hE:E k=OfT set) (hw:Wd ops o E true)
  (hr:wpT Tryz.prog ops w0 Fin rest (E.put o.dst (FsT s [setAll set.data.toList s,endsI s,dotsI s])) (FsT s [setAll set.data.toList s,endsI s,dotsI s] :: Ts)):wpT Tryz.prog ops w0 Fin (o :: rest) E Ts:=
 tw_val (FsT s [setAll set.data.toList s,endsI s,dotsI s]) (stable_fs _ _) hw (fun a W hW hs'=>by
  have h1:=hs' k (looks_of (x:=.tmp k) (by rw [hop];simp [Op.operands]) rfl)
  rw [hE] at h1
  obtain⟨B,h1,h2⟩:=h1
  have h3:a.eval (.tmp k)=.func (.func 143) #[] #[.pointer (some ⟨B,0,none⟩)]:=h1
  obtain⟨W1,hW1⟩:∃W1,W1=W.alloc (.cells #[.func (.func 143) #[] #[.pointer (some ⟨B,0,none⟩)],.func (.func 99) #[] #[],.func (.func 100) #[] #[]] 56):=⟨_,rfl⟩
  have hx:Below W.heap.size W W1:=by rw [hW1];exact(Below.refl _ _).alloc (Nat.le_refl _) _
  have hgW:Glb W:=hg.below hW
  refine⟨.slice (some ⟨W.heap.size,0,none⟩) 3 3,W1,?_,hx,some ⟨W.heap.size,0,none⟩,3,[(.func (.func 143) #[] #[.pointer (some ⟨B,0,none⟩)],setAll set.data.toList s),(.func (.func 99) #[] #[],endsI s),(.func (.func 100) #[] #[],dotsI s)],rfl,fun _=>⟨W.heap.size,0,rfl,by rw [hW1];simp,fun i x hi=>?_⟩,rfl,by simp,?_⟩
  ·unfold execOp
   rw [hW1]
   have e1:a.eval (.func 99)=.func (.func 99) #[] #[]:=rfl
   have e2:a.eval (.func 100)=.func (.func 100) #[] #[]:=rfl
   clear h1 hs' hr
   generalize a.eval=ρ at *
   simp only [hop,h3,e1,e2]
   go_simp
  ·rw [hW1]
   match i,hi with
   | 0,hi=>simp at hi;subst hi;simp
   | 1,hi=>simp at hi;subst hi;simp
   | 2,hi=>simp at hi;subst hi;simp
   | i+3,hi=>simp at hi
  ·intro x hxm h0 h64
   simp only [List.mem_cons,List.not_mem_nil,or_false] at hxm
   rcases hxm with rfl|rfl|rfl
   ·exact(fn_of s set B W (by omega) hc ha h2).later hx
   ·exact fn_ends s W1 (by omega) h0
   ·exact fn_dots s W1 (by omega) (hgW.below hx)) hr
theorem tw_part {x:Operand} {k:Tmp} {ts:Array TypeId} (s:ByteArray) (bs:List Bool) (b:Bool) (hb:(lenOK s && bs.all id)=b) (hop:o.op=.call { callee:=.value (.func 96),args:=#[x,.tmp k],argTypes:=ts}) (hx:evalE E x=some (.string s)) (hE:E k=FsT s bs) (hw:Wd ops o E true)
  (hr:wpT Tryz.prog ops w0 Fin rest (E.put o.dst (.inl (.bool b))) (.inl (.bool b) :: Ts)):wpT Tryz.prog ops w0 Fin (o :: rest) E Ts:=
 tw_call (.inl (.bool b)) (stable_is _) hw (fun a W hW hs'=>by
  have h1:=hs' k (looks_of (x:=.tmp k) (by rw [hop];simp [Op.operands,Call.operands]) rfl)
  rw [hE] at h1
  obtain⟨A,c,fs,h1,h2,h3,h4,h5⟩:=h1
  have h6:a.eval (.tmp k)=.slice A fs.length c:=h1
  have h7:a.eval x=.string s:=evalE_of hx (by rw [hop];simp [Op.operands,Call.operands]) hs'
  have e0:a.eval (.func 96)=.func (.func 96) #[] #[]:=rfl
  have hcf:=enters_of (P:=Tryz.prog) Tryz.func96 (by kernel_rfl) rfl #[.string s,.slice A fs.length c] W
  refine⟨96,#[.string s,.slice A fs.length c],?_,(jpart_any s A c fs W h2 (by omega) h5).mono fun e w' h=>⟨_,h.1,h.2,?_⟩⟩
  ·unfold execOp
   simp only [hop,resolve,e0,Deferred.ofValue,List.map_toArray,List.map_cons,List.map_nil,h6,h7,Sem.run_bind,Sem.run_pure,Result.andThen_ok,invoke,Array.append_empty,Array.empty_append,hcf]
  ·show _=_
   rw [←hb,←h3,List.all_map];rfl) hr
end
def encJ (j:JidL):Value:=.agg #[.string j.loc,.string j.dom,.string j.res]
def SzJ (j:JidL):Prop:=j.loc.size≤1000000000∧j.dom.size≤1000000000∧j.res.size≤1000000000
def jidErr (j:JidL):Int:=if jidI j then 0 else 8
theorem ext_below {w W:World} (h:Ext w.drew W):Below w.heap.size w W:=(Below.refl w.heap.size w).drew.trans (Below.mono h (Nat.le_refl _))
theorem emp_iff (s:ByteArray):s.toList.isEmpty=isEmp s:=by
 rcases Nat.eq_zero_or_pos s.size with h|h
 ·rw [str_em s h];unfold isEmp;rw [decide_eq_true h]
 ·rw [str_ne s h];unfold isEmp;rw [decide_eq_false (by omega)]
set_option maxHeartbeats 16000000 in
set_option maxRecDepth 10000 in
theorem jcheckn_any (j:JidL) (w:World) (hg:Glb w):Calls Tryz.prog 49 #[encJ j] w fun e w'=>e=.returned (.int .i64 (jidErr j))∧Below w.heap.size w w':=by
 obtain⟨loc,dom,res⟩:=j
 obtain⟨W0,hW0⟩:∃W0,W0=w.alloc (.cells #[.string loc,.string dom,.string res] 97):=⟨_,rfl⟩
 have hX0:Below w.heap.size w W0:=by rw [hW0];exact(Below.refl _ _).alloc (Nat.le_refl _) _
 have hH0:W0.heap[w.heap.size]? = some (.cells #[.string loc,.string dom,.string res] 97 (0,0)):=by rw [hW0];exact heap_alloc_new w _
 have c0:∀W,Below W0.heap.size W0 W→W.cell? ⟨w.heap.size,0,none⟩=some (.string loc):=fun W hW=>by simp [World.cell?,heap_ext hH0 hW]
 have c1:∀W,Below W0.heap.size W0 W→W.cell? ⟨w.heap.size,1,none⟩=some (.string dom):=fun W hW=>by simp [World.cell?,heap_ext hH0 hW]
 have c2:∀W,Below W0.heap.size W0 W→W.cell? ⟨w.heap.size,2,none⟩=some (.string res):=fun W hW=>by simp [World.cell?,heap_ext hH0 hW]
 have C0:=Lib.hid c0
 have C1:=Lib.hid c1
 have C2:=Lib.hid c2
 have HX0:=Lib.hid hX0
 have HG:=Lib.hid (fun W (hW:Below W0.heap.size W0 W)=>(hg.below hX0).below hW)
 have HWP:=Lib.hid (fun W=>jpart_any res (some ⟨(W:World).heap.size,0,none⟩) 1 [(.func (.func 98) #[] #[],(decide (textErr res=0) && seenI res))] (W.alloc (.cells #[.func (.func 98) #[] #[]] 56)) (fun _=>⟨W.heap.size,0,rfl,by simp,fun i x hi=>by
   cases i with
   | zero=>simp at hi;subst hi;simp
   | succ i=>simp at hi⟩) (by simp) (fun x hx h0 h64=>by
   simp only [List.mem_singleton] at hx
   subst hx
   exact fn_words res _ (by omega)))
 obtain⟨bl,hbl⟩:∃bl,(isEmp loc || localI loc)=bl:=⟨_,rfl⟩
 obtain⟨br,hbr⟩:∃br,(isEmp res || resI res)=br:=⟨_,rfl⟩
 obtain⟨bd,hbd⟩:∃bd,(lenOK dom && [setAll ((⟨#[97,98,99,100,101,102,103,104,105,106,107,108,109,110,111,112,113,114,115,116,117,118,119,120,121,122,48,49,50,51,52,53,54,55,56,57,46,45]⟩:ByteArray)).data.toList dom,endsI dom,dotsI dom].all id)=bd:=⟨_,rfl⟩
 have HJ:Box (jidErr ⟨loc,dom,res⟩=if (bl && br && bd) then 0 else 8):=⟨by
  unfold jidErr jidI
  rw [←hbl,←hbr,←hbd]
  unfold domI
  simp [domL,Bool.and_assoc]⟩
 have hcl:(loc.toList.isEmpty=true∧bl=true)∨(loc.toList.isEmpty=false∧(lenOK loc && [setAll ((⟨#[97,98,99,100,101,102,103,104,105,106,107,108,109,110,111,112,113,114,115,116,117,118,119,120,121,122,48,49,50,51,52,53,54,55,56,57,46,45,95]⟩:ByteArray)).data.toList loc].all id)=bl):=by
  rw [emp_iff]
  cases he:isEmp loc with
  | true=>left;rw [he] at hbl;exact⟨rfl,hbl.symm⟩
  | false=>right;rw [he] at hbl;refine⟨rfl,?_⟩;rw [←hbl];unfold localI;simp [locL]
 have hcr:(res.toList.isEmpty=true∧br=true)∨(res.toList.isEmpty=false∧(lenOK res && [(decide (textErr res=0) && seenI res)].all id)=br):=by
  rw [emp_iff]
  cases he:isEmp res with
  | true=>left;rw [he] at hbr;exact⟨rfl,hbr.symm⟩
  | false=>right;rw [he] at hbr;refine⟨rfl,?_⟩;rw [←hbr];unfold resI;simp
 have HWE:=Lib.hid hW0
 have HBD:=Lib.hid hbd
 have hW0':=hX0.size
 generalize jidErr ⟨loc,dom,res⟩=r at *
 clear hbl hbr hbd hX0 hH0 c0 c1 c2 hW0 hg
 unfold encJ
 rcases hcl with ⟨hel,rfl⟩|⟨hel,hbl⟩
 ·go_enter Tryz.func49,Tryz.ntmps49
  go_wp2_with fail
  try rw [←HWE.out]
  refine wp_region_typed rfl (by kernel_rfl) (by kernel_rfl) ?_
  have G0:=Lib.hid (fun W (hW:Ext W0.drew W)=>C0.out W (ext_below hW))
  repeat (first|refine tw_ldS rfl rfl G0.out (wdA rfl) ?_|refine tw_skip (wd_no rfl rfl rfl) ?_|refine tw_mv (.inl rfl) rfl (wdA rfl) ?_|refine tw_mv (.inr rfl) rfl (wdA rfl) ?_|refine tw_pickL rfl rfl rfl (wdA rfl) ?_|refine tw_op1 _ rfl rfl (wdA rfl) (fun ρ W hW h1=>by simp only [execOp,h1];go_simp;first|done|rfl) ?_|refine tw_op2 _ rfl rfl rfl (wdA rfl) (fun ρ W hW h1 h2=>by simp only [execOp,h1,h2];go_simp;first|done|rfl) ?_)
  dsimp only [wpT,List.reverse,List.reverseAux,FinT,OfT,FsT]
  intro W1 hW1 _
  have X1:=Lib.hid (ext_below hW1)
  simp only [Act.put,List.setIfInBounds_toArray,List.set_cons_zero,List.set_cons_succ]
  clear hW1
  have c2:=C2.out _ X1.out
  rcases hcr with ⟨her,rfl⟩|⟨her,hbr⟩
  ·go_wp2_with fail
   have XC:=X1
   go_wp2_with fail
   refine wp_region_typed rfl (by kernel_rfl) (by kernel_rfl) ?_
   have G1:=Lib.hid (fun W (hW:Ext (World.drew _) W)=>C1.out W (XC.out.trans ((ext_below hW).mono XC.out.size)))
   have GG:Hid (Glb (World.drew _)):=Lib.hid (HG.out _ XC.out.drew)
   repeat (first|refine tw_ldS rfl rfl G1.out (wdA rfl) ?_|refine tw_of (⟨#[97,98,99,100,101,102,103,104,105,106,107,108,109,110,111,112,113,114,115,116,117,118,119,120,121,122,48,49,50,51,52,53,54,55,56,57,46,45]⟩:ByteArray) rfl (wdA rfl) ?_|refine tw_build3 dom (⟨#[97,98,99,100,101,102,103,104,105,106,107,108,109,110,111,112,113,114,115,116,117,118,119,120,121,122,48,49,50,51,52,53,54,55,56,57,46,45]⟩:ByteArray) (by decide) (by decide) GG.out rfl rfl (wdA rfl) ?_|refine tw_part dom _ _ HBD.out rfl rfl rfl (wdA rfl) ?_|refine tw_skip (wd_no rfl rfl rfl) ?_|refine tw_mv (.inl rfl) rfl (wdA rfl) ?_|refine tw_mv (.inr rfl) rfl (wdA rfl) ?_|refine tw_pickL rfl rfl rfl (wdA rfl) ?_|refine tw_op1 _ rfl rfl (wdA rfl) (fun ρ W hW h1=>by simp only [execOp,h1];go_simp;first|done|rfl) ?_|refine tw_op2 _ rfl rfl rfl (wdA rfl) (fun ρ W hW h1 h2=>by simp only [execOp,h1,h2];go_simp;first|done|rfl) ?_)
   dsimp only [wpT,List.reverse,List.reverseAux,FinT,OfT,FsT]
   intro u1 u2 W3 hW3 _
   have X3:=Lib.hid (XC.out.trans ((ext_below hW3).mono XC.out.size))
   simp only [Act.put,List.setIfInBounds_toArray,List.set_cons_zero,List.set_cons_succ]
   clear hW3
   go_wp2
   all_goals
    go_ret
    exact⟨ret_int (by rw [HJ.out];simp_all),HX0.out.trans (X3.out.mono HX0.out.size)⟩
  ·have HWP2:=Lib.hid (HWP.out W1)
   have hbr':(lenOK res && [((Value.func (.func 98) #[] #[]),(decide (textErr res=0) && seenI res))].all fun x=>x.2)=br:=by rw [←hbr];simp
   rw [hbr'] at HWP2
   clear hbr hbr' HWP
   cases br
   ·go_wp2_with fail
    refine HWP2.out.mono ?_
    rintro e w2 ⟨rfl,hb2⟩
    have XC:Hid (Below W0.heap.size W0 w2):=(X1.out.alloc X1.out.size _).trans (hb2.mono (by have:=X1.out.size;simp;omega))
    clear hb2 c2
    go_wp2_with fail
    refine wp_region_typed rfl (by kernel_rfl) (by kernel_rfl) ?_
    have G1:=Lib.hid (fun W (hW:Ext (World.drew _) W)=>C1.out W (XC.out.trans ((ext_below hW).mono XC.out.size)))
    have GG:Hid (Glb (World.drew _)):=Lib.hid (HG.out _ XC.out.drew)
    repeat (first|refine tw_ldS rfl rfl G1.out (wdA rfl) ?_|refine tw_of (⟨#[97,98,99,100,101,102,103,104,105,106,107,108,109,110,111,112,113,114,115,116,117,118,119,120,121,122,48,49,50,51,52,53,54,55,56,57,46,45]⟩:ByteArray) rfl (wdA rfl) ?_|refine tw_build3 dom (⟨#[97,98,99,100,101,102,103,104,105,106,107,108,109,110,111,112,113,114,115,116,117,118,119,120,121,122,48,49,50,51,52,53,54,55,56,57,46,45]⟩:ByteArray) (by decide) (by decide) GG.out rfl rfl (wdA rfl) ?_|refine tw_part dom _ _ HBD.out rfl rfl rfl (wdA rfl) ?_|refine tw_skip (wd_no rfl rfl rfl) ?_|refine tw_mv (.inl rfl) rfl (wdA rfl) ?_|refine tw_mv (.inr rfl) rfl (wdA rfl) ?_|refine tw_pickL rfl rfl rfl (wdA rfl) ?_|refine tw_op1 _ rfl rfl (wdA rfl) (fun ρ W hW h1=>by simp only [execOp,h1];go_simp;first|done|rfl) ?_|refine tw_op2 _ rfl rfl rfl (wdA rfl) (fun ρ W hW h1 h2=>by simp only [execOp,h1,h2];go_simp;first|done|rfl) ?_)
    dsimp only [wpT,List.reverse,List.reverseAux,FinT,OfT,FsT]
    intro W3 hW3 _
    have X3:=Lib.hid (XC.out.trans ((ext_below hW3).mono XC.out.size))
    simp only [Act.put,List.setIfInBounds_toArray,List.set_cons_zero,List.set_cons_succ]
    clear hW3
    go_wp2
    all_goals
     go_ret
     exact⟨ret_int (by rw [HJ.out];simp_all),HX0.out.trans (X3.out.mono HX0.out.size)⟩
   ·go_wp2_with fail
    refine HWP2.out.mono ?_
    rintro e w2 ⟨rfl,hb2⟩
    have XC:Hid (Below W0.heap.size W0 w2):=(X1.out.alloc X1.out.size _).trans (hb2.mono (by have:=X1.out.size;simp;omega))
    clear hb2 c2
    go_wp2_with fail
    refine wp_region_typed rfl (by kernel_rfl) (by kernel_rfl) ?_
    have G1:=Lib.hid (fun W (hW:Ext (World.drew _) W)=>C1.out W (XC.out.trans ((ext_below hW).mono XC.out.size)))
    have GG:Hid (Glb (World.drew _)):=Lib.hid (HG.out _ XC.out.drew)
    repeat (first|refine tw_ldS rfl rfl G1.out (wdA rfl) ?_|refine tw_of (⟨#[97,98,99,100,101,102,103,104,105,106,107,108,109,110,111,112,113,114,115,116,117,118,119,120,121,122,48,49,50,51,52,53,54,55,56,57,46,45]⟩:ByteArray) rfl (wdA rfl) ?_|refine tw_build3 dom (⟨#[97,98,99,100,101,102,103,104,105,106,107,108,109,110,111,112,113,114,115,116,117,118,119,120,121,122,48,49,50,51,52,53,54,55,56,57,46,45]⟩:ByteArray) (by decide) (by decide) GG.out rfl rfl (wdA rfl) ?_|refine tw_part dom _ _ HBD.out rfl rfl rfl (wdA rfl) ?_|refine tw_skip (wd_no rfl rfl rfl) ?_|refine tw_mv (.inl rfl) rfl (wdA rfl) ?_|refine tw_mv (.inr rfl) rfl (wdA rfl) ?_|refine tw_pickL rfl rfl rfl (wdA rfl) ?_|refine tw_op1 _ rfl rfl (wdA rfl) (fun ρ W hW h1=>by simp only [execOp,h1];go_simp;first|done|rfl) ?_|refine tw_op2 _ rfl rfl rfl (wdA rfl) (fun ρ W hW h1 h2=>by simp only [execOp,h1,h2];go_simp;first|done|rfl) ?_)
    dsimp only [wpT,List.reverse,List.reverseAux,FinT,OfT,FsT]
    intro u1 u2 W3 hW3 _
    have X3:=Lib.hid (XC.out.trans ((ext_below hW3).mono XC.out.size))
    simp only [Act.put,List.setIfInBounds_toArray,List.set_cons_zero,List.set_cons_succ]
    clear hW3
    go_wp2
    all_goals
     go_ret
     exact⟨ret_int (by rw [HJ.out];simp_all),HX0.out.trans (X3.out.mono HX0.out.size)⟩
 ·have HBL:=Lib.hid hbl
  clear hbl
  cases bl
  ·go_enter Tryz.func49,Tryz.ntmps49
   go_wp2_with fail
   try rw [←HWE.out]
   refine wp_region_typed rfl (by kernel_rfl) (by kernel_rfl) ?_
   have G0:=Lib.hid (fun W (hW:Ext W0.drew W)=>C0.out W (ext_below hW))
   repeat (first|refine tw_ldS rfl rfl G0.out (wdA rfl) ?_|refine tw_of (⟨#[97,98,99,100,101,102,103,104,105,106,107,108,109,110,111,112,113,114,115,116,117,118,119,120,121,122,48,49,50,51,52,53,54,55,56,57,46,45,95]⟩:ByteArray) rfl (wdA rfl) ?_|refine tw_build1 loc (⟨#[97,98,99,100,101,102,103,104,105,106,107,108,109,110,111,112,113,114,115,116,117,118,119,120,121,122,48,49,50,51,52,53,54,55,56,57,46,45,95]⟩:ByteArray) (by decide) (by decide) rfl rfl (wdA rfl) ?_|refine tw_part loc _ _ HBL.out rfl rfl rfl (wdA rfl) ?_|refine tw_skip (wd_no rfl rfl rfl) ?_|refine tw_mv (.inl rfl) rfl (wdA rfl) ?_|refine tw_mv (.inr rfl) rfl (wdA rfl) ?_|refine tw_pickL rfl rfl rfl (wdA rfl) ?_|refine tw_op1 _ rfl rfl (wdA rfl) (fun ρ W hW h1=>by simp only [execOp,h1];go_simp;first|done|rfl) ?_|refine tw_op2 _ rfl rfl rfl (wdA rfl) (fun ρ W hW h1 h2=>by simp only [execOp,h1,h2];go_simp;first|done|rfl) ?_)
   dsimp only [wpT,List.reverse,List.reverseAux,FinT,OfT,FsT]
   intro u1 u2 W1 hW1 _
   have X1:=Lib.hid (ext_below hW1)
   simp only [Act.put,List.setIfInBounds_toArray,List.set_cons_zero,List.set_cons_succ]
   clear hW1
   have c2:=C2.out _ X1.out
   rcases hcr with ⟨her,rfl⟩|⟨her,hbr⟩
   ·go_wp2_with fail
    have XC:=X1
    go_wp2_with fail
    refine wp_region_typed rfl (by kernel_rfl) (by kernel_rfl) ?_
    have G1:=Lib.hid (fun W (hW:Ext (World.drew _) W)=>C1.out W (XC.out.trans ((ext_below hW).mono XC.out.size)))
    have GG:Hid (Glb (World.drew _)):=Lib.hid (HG.out _ XC.out.drew)
    repeat (first|refine tw_ldS rfl rfl G1.out (wdA rfl) ?_|refine tw_of (⟨#[97,98,99,100,101,102,103,104,105,106,107,108,109,110,111,112,113,114,115,116,117,118,119,120,121,122,48,49,50,51,52,53,54,55,56,57,46,45]⟩:ByteArray) rfl (wdA rfl) ?_|refine tw_build3 dom (⟨#[97,98,99,100,101,102,103,104,105,106,107,108,109,110,111,112,113,114,115,116,117,118,119,120,121,122,48,49,50,51,52,53,54,55,56,57,46,45]⟩:ByteArray) (by decide) (by decide) GG.out rfl rfl (wdA rfl) ?_|refine tw_part dom _ _ HBD.out rfl rfl rfl (wdA rfl) ?_|refine tw_skip (wd_no rfl rfl rfl) ?_|refine tw_mv (.inl rfl) rfl (wdA rfl) ?_|refine tw_mv (.inr rfl) rfl (wdA rfl) ?_|refine tw_pickL rfl rfl rfl (wdA rfl) ?_|refine tw_op1 _ rfl rfl (wdA rfl) (fun ρ W hW h1=>by simp only [execOp,h1];go_simp;first|done|rfl) ?_|refine tw_op2 _ rfl rfl rfl (wdA rfl) (fun ρ W hW h1 h2=>by simp only [execOp,h1,h2];go_simp;first|done|rfl) ?_)
    dsimp only [wpT,List.reverse,List.reverseAux,FinT,OfT,FsT]
    intro W3 hW3 _
    have X3:=Lib.hid (XC.out.trans ((ext_below hW3).mono XC.out.size))
    simp only [Act.put,List.setIfInBounds_toArray,List.set_cons_zero,List.set_cons_succ]
    clear hW3
    go_wp2
    all_goals
     go_ret
     exact⟨ret_int (by rw [HJ.out];simp_all),HX0.out.trans (X3.out.mono HX0.out.size)⟩
   ·have HWP2:=Lib.hid (HWP.out W1)
    have hbr':(lenOK res && [((Value.func (.func 98) #[] #[]),(decide (textErr res=0) && seenI res))].all fun x=>x.2)=br:=by rw [←hbr];simp
    rw [hbr'] at HWP2
    clear hbr hbr' HWP
    cases br
    ·go_wp2_with fail
     refine HWP2.out.mono ?_
     rintro e w2 ⟨rfl,hb2⟩
     have XC:Hid (Below W0.heap.size W0 w2):=(X1.out.alloc X1.out.size _).trans (hb2.mono (by have:=X1.out.size;simp;omega))
     clear hb2 c2
     go_wp2_with fail
     refine wp_region_typed rfl (by kernel_rfl) (by kernel_rfl) ?_
     have G1:=Lib.hid (fun W (hW:Ext (World.drew _) W)=>C1.out W (XC.out.trans ((ext_below hW).mono XC.out.size)))
     have GG:Hid (Glb (World.drew _)):=Lib.hid (HG.out _ XC.out.drew)
     repeat (first|refine tw_ldS rfl rfl G1.out (wdA rfl) ?_|refine tw_of (⟨#[97,98,99,100,101,102,103,104,105,106,107,108,109,110,111,112,113,114,115,116,117,118,119,120,121,122,48,49,50,51,52,53,54,55,56,57,46,45]⟩:ByteArray) rfl (wdA rfl) ?_|refine tw_build3 dom (⟨#[97,98,99,100,101,102,103,104,105,106,107,108,109,110,111,112,113,114,115,116,117,118,119,120,121,122,48,49,50,51,52,53,54,55,56,57,46,45]⟩:ByteArray) (by decide) (by decide) GG.out rfl rfl (wdA rfl) ?_|refine tw_part dom _ _ HBD.out rfl rfl rfl (wdA rfl) ?_|refine tw_skip (wd_no rfl rfl rfl) ?_|refine tw_mv (.inl rfl) rfl (wdA rfl) ?_|refine tw_mv (.inr rfl) rfl (wdA rfl) ?_|refine tw_pickL rfl rfl rfl (wdA rfl) ?_|refine tw_op1 _ rfl rfl (wdA rfl) (fun ρ W hW h1=>by simp only [execOp,h1];go_simp;first|done|rfl) ?_|refine tw_op2 _ rfl rfl rfl (wdA rfl) (fun ρ W hW h1 h2=>by simp only [execOp,h1,h2];go_simp;first|done|rfl) ?_)
     dsimp only [wpT,List.reverse,List.reverseAux,FinT,OfT,FsT]
     intro W3 hW3 _
     have X3:=Lib.hid (XC.out.trans ((ext_below hW3).mono XC.out.size))
     simp only [Act.put,List.setIfInBounds_toArray,List.set_cons_zero,List.set_cons_succ]
     clear hW3
     go_wp2
     all_goals
      go_ret
      exact⟨ret_int (by rw [HJ.out];simp_all),HX0.out.trans (X3.out.mono HX0.out.size)⟩
    ·go_wp2_with fail
     refine HWP2.out.mono ?_
     rintro e w2 ⟨rfl,hb2⟩
     have XC:Hid (Below W0.heap.size W0 w2):=(X1.out.alloc X1.out.size _).trans (hb2.mono (by have:=X1.out.size;simp;omega))
     clear hb2 c2
     go_wp2_with fail
     refine wp_region_typed rfl (by kernel_rfl) (by kernel_rfl) ?_
     have G1:=Lib.hid (fun W (hW:Ext (World.drew _) W)=>C1.out W (XC.out.trans ((ext_below hW).mono XC.out.size)))
     have GG:Hid (Glb (World.drew _)):=Lib.hid (HG.out _ XC.out.drew)
     repeat (first|refine tw_ldS rfl rfl G1.out (wdA rfl) ?_|refine tw_of (⟨#[97,98,99,100,101,102,103,104,105,106,107,108,109,110,111,112,113,114,115,116,117,118,119,120,121,122,48,49,50,51,52,53,54,55,56,57,46,45]⟩:ByteArray) rfl (wdA rfl) ?_|refine tw_build3 dom (⟨#[97,98,99,100,101,102,103,104,105,106,107,108,109,110,111,112,113,114,115,116,117,118,119,120,121,122,48,49,50,51,52,53,54,55,56,57,46,45]⟩:ByteArray) (by decide) (by decide) GG.out rfl rfl (wdA rfl) ?_|refine tw_part dom _ _ HBD.out rfl rfl rfl (wdA rfl) ?_|refine tw_skip (wd_no rfl rfl rfl) ?_|refine tw_mv (.inl rfl) rfl (wdA rfl) ?_|refine tw_mv (.inr rfl) rfl (wdA rfl) ?_|refine tw_pickL rfl rfl rfl (wdA rfl) ?_|refine tw_op1 _ rfl rfl (wdA rfl) (fun ρ W hW h1=>by simp only [execOp,h1];go_simp;first|done|rfl) ?_|refine tw_op2 _ rfl rfl rfl (wdA rfl) (fun ρ W hW h1 h2=>by simp only [execOp,h1,h2];go_simp;first|done|rfl) ?_)
     dsimp only [wpT,List.reverse,List.reverseAux,FinT,OfT,FsT]
     intro W3 hW3 _
     have X3:=Lib.hid (XC.out.trans ((ext_below hW3).mono XC.out.size))
     simp only [Act.put,List.setIfInBounds_toArray,List.set_cons_zero,List.set_cons_succ]
     clear hW3
     go_wp2
     all_goals
      go_ret
      exact⟨ret_int (by rw [HJ.out];simp_all),HX0.out.trans (X3.out.mono HX0.out.size)⟩
  ·go_enter Tryz.func49,Tryz.ntmps49
   go_wp2_with fail
   try rw [←HWE.out]
   refine wp_region_typed rfl (by kernel_rfl) (by kernel_rfl) ?_
   have G0:=Lib.hid (fun W (hW:Ext W0.drew W)=>C0.out W (ext_below hW))
   repeat (first|refine tw_ldS rfl rfl G0.out (wdA rfl) ?_|refine tw_of (⟨#[97,98,99,100,101,102,103,104,105,106,107,108,109,110,111,112,113,114,115,116,117,118,119,120,121,122,48,49,50,51,52,53,54,55,56,57,46,45,95]⟩:ByteArray) rfl (wdA rfl) ?_|refine tw_build1 loc (⟨#[97,98,99,100,101,102,103,104,105,106,107,108,109,110,111,112,113,114,115,116,117,118,119,120,121,122,48,49,50,51,52,53,54,55,56,57,46,45,95]⟩:ByteArray) (by decide) (by decide) rfl rfl (wdA rfl) ?_|refine tw_part loc _ _ HBL.out rfl rfl rfl (wdA rfl) ?_|refine tw_skip (wd_no rfl rfl rfl) ?_|refine tw_mv (.inl rfl) rfl (wdA rfl) ?_|refine tw_mv (.inr rfl) rfl (wdA rfl) ?_|refine tw_pickL rfl rfl rfl (wdA rfl) ?_|refine tw_op1 _ rfl rfl (wdA rfl) (fun ρ W hW h1=>by simp only [execOp,h1];go_simp;first|done|rfl) ?_|refine tw_op2 _ rfl rfl rfl (wdA rfl) (fun ρ W hW h1 h2=>by simp only [execOp,h1,h2];go_simp;first|done|rfl) ?_)
   dsimp only [wpT,List.reverse,List.reverseAux,FinT,OfT,FsT]
   intro u1 u2 W1 hW1 _
   have X1:=Lib.hid (ext_below hW1)
   simp only [Act.put,List.setIfInBounds_toArray,List.set_cons_zero,List.set_cons_succ]
   clear hW1
   have c2:=C2.out _ X1.out
   rcases hcr with ⟨her,rfl⟩|⟨her,hbr⟩
   ·go_wp2_with fail
    have XC:=X1
    go_wp2_with fail
    refine wp_region_typed rfl (by kernel_rfl) (by kernel_rfl) ?_
    have G1:=Lib.hid (fun W (hW:Ext (World.drew _) W)=>C1.out W (XC.out.trans ((ext_below hW).mono XC.out.size)))
    have GG:Hid (Glb (World.drew _)):=Lib.hid (HG.out _ XC.out.drew)
    repeat (first|refine tw_ldS rfl rfl G1.out (wdA rfl) ?_|refine tw_of (⟨#[97,98,99,100,101,102,103,104,105,106,107,108,109,110,111,112,113,114,115,116,117,118,119,120,121,122,48,49,50,51,52,53,54,55,56,57,46,45]⟩:ByteArray) rfl (wdA rfl) ?_|refine tw_build3 dom (⟨#[97,98,99,100,101,102,103,104,105,106,107,108,109,110,111,112,113,114,115,116,117,118,119,120,121,122,48,49,50,51,52,53,54,55,56,57,46,45]⟩:ByteArray) (by decide) (by decide) GG.out rfl rfl (wdA rfl) ?_|refine tw_part dom _ _ HBD.out rfl rfl rfl (wdA rfl) ?_|refine tw_skip (wd_no rfl rfl rfl) ?_|refine tw_mv (.inl rfl) rfl (wdA rfl) ?_|refine tw_mv (.inr rfl) rfl (wdA rfl) ?_|refine tw_pickL rfl rfl rfl (wdA rfl) ?_|refine tw_op1 _ rfl rfl (wdA rfl) (fun ρ W hW h1=>by simp only [execOp,h1];go_simp;first|done|rfl) ?_|refine tw_op2 _ rfl rfl rfl (wdA rfl) (fun ρ W hW h1 h2=>by simp only [execOp,h1,h2];go_simp;first|done|rfl) ?_)
    dsimp only [wpT,List.reverse,List.reverseAux,FinT,OfT,FsT]
    intro u1 u2 W3 hW3 _
    have X3:=Lib.hid (XC.out.trans ((ext_below hW3).mono XC.out.size))
    simp only [Act.put,List.setIfInBounds_toArray,List.set_cons_zero,List.set_cons_succ]
    clear hW3
    go_wp2
    all_goals
     go_ret
     exact⟨ret_int (by rw [HJ.out];simp_all),HX0.out.trans (X3.out.mono HX0.out.size)⟩
   ·have HWP2:=Lib.hid (HWP.out W1)
    have hbr':(lenOK res && [((Value.func (.func 98) #[] #[]),(decide (textErr res=0) && seenI res))].all fun x=>x.2)=br:=by rw [←hbr];simp
    rw [hbr'] at HWP2
    clear hbr hbr' HWP
    cases br
    ·go_wp2_with fail
     refine HWP2.out.mono ?_
     rintro e w2 ⟨rfl,hb2⟩
     have XC:Hid (Below W0.heap.size W0 w2):=(X1.out.alloc X1.out.size _).trans (hb2.mono (by have:=X1.out.size;simp;omega))
     clear hb2 c2
     go_wp2_with fail
     refine wp_region_typed rfl (by kernel_rfl) (by kernel_rfl) ?_
     have G1:=Lib.hid (fun W (hW:Ext (World.drew _) W)=>C1.out W (XC.out.trans ((ext_below hW).mono XC.out.size)))
     have GG:Hid (Glb (World.drew _)):=Lib.hid (HG.out _ XC.out.drew)
     repeat (first|refine tw_ldS rfl rfl G1.out (wdA rfl) ?_|refine tw_of (⟨#[97,98,99,100,101,102,103,104,105,106,107,108,109,110,111,112,113,114,115,116,117,118,119,120,121,122,48,49,50,51,52,53,54,55,56,57,46,45]⟩:ByteArray) rfl (wdA rfl) ?_|refine tw_build3 dom (⟨#[97,98,99,100,101,102,103,104,105,106,107,108,109,110,111,112,113,114,115,116,117,118,119,120,121,122,48,49,50,51,52,53,54,55,56,57,46,45]⟩:ByteArray) (by decide) (by decide) GG.out rfl rfl (wdA rfl) ?_|refine tw_part dom _ _ HBD.out rfl rfl rfl (wdA rfl) ?_|refine tw_skip (wd_no rfl rfl rfl) ?_|refine tw_mv (.inl rfl) rfl (wdA rfl) ?_|refine tw_mv (.inr rfl) rfl (wdA rfl) ?_|refine tw_pickL rfl rfl rfl (wdA rfl) ?_|refine tw_op1 _ rfl rfl (wdA rfl) (fun ρ W hW h1=>by simp only [execOp,h1];go_simp;first|done|rfl) ?_|refine tw_op2 _ rfl rfl rfl (wdA rfl) (fun ρ W hW h1 h2=>by simp only [execOp,h1,h2];go_simp;first|done|rfl) ?_)
     dsimp only [wpT,List.reverse,List.reverseAux,FinT,OfT,FsT]
     intro W3 hW3 _
     have X3:=Lib.hid (XC.out.trans ((ext_below hW3).mono XC.out.size))
     simp only [Act.put,List.setIfInBounds_toArray,List.set_cons_zero,List.set_cons_succ]
     clear hW3
     go_wp2
     all_goals
      go_ret
      exact⟨ret_int (by rw [HJ.out];simp_all),HX0.out.trans (X3.out.mono HX0.out.size)⟩
    ·go_wp2_with fail
     refine HWP2.out.mono ?_
     rintro e w2 ⟨rfl,hb2⟩
     have XC:Hid (Below W0.heap.size W0 w2):=(X1.out.alloc X1.out.size _).trans (hb2.mono (by have:=X1.out.size;simp;omega))
     clear hb2 c2
     go_wp2_with fail
     refine wp_region_typed rfl (by kernel_rfl) (by kernel_rfl) ?_
     have G1:=Lib.hid (fun W (hW:Ext (World.drew _) W)=>C1.out W (XC.out.trans ((ext_below hW).mono XC.out.size)))
     have GG:Hid (Glb (World.drew _)):=Lib.hid (HG.out _ XC.out.drew)
     repeat (first|refine tw_ldS rfl rfl G1.out (wdA rfl) ?_|refine tw_of (⟨#[97,98,99,100,101,102,103,104,105,106,107,108,109,110,111,112,113,114,115,116,117,118,119,120,121,122,48,49,50,51,52,53,54,55,56,57,46,45]⟩:ByteArray) rfl (wdA rfl) ?_|refine tw_build3 dom (⟨#[97,98,99,100,101,102,103,104,105,106,107,108,109,110,111,112,113,114,115,116,117,118,119,120,121,122,48,49,50,51,52,53,54,55,56,57,46,45]⟩:ByteArray) (by decide) (by decide) GG.out rfl rfl (wdA rfl) ?_|refine tw_part dom _ _ HBD.out rfl rfl rfl (wdA rfl) ?_|refine tw_skip (wd_no rfl rfl rfl) ?_|refine tw_mv (.inl rfl) rfl (wdA rfl) ?_|refine tw_mv (.inr rfl) rfl (wdA rfl) ?_|refine tw_pickL rfl rfl rfl (wdA rfl) ?_|refine tw_op1 _ rfl rfl (wdA rfl) (fun ρ W hW h1=>by simp only [execOp,h1];go_simp;first|done|rfl) ?_|refine tw_op2 _ rfl rfl rfl (wdA rfl) (fun ρ W hW h1 h2=>by simp only [execOp,h1,h2];go_simp;first|done|rfl) ?_)
     dsimp only [wpT,List.reverse,List.reverseAux,FinT,OfT,FsT]
     intro u1 u2 W3 hW3 _
     have X3:=Lib.hid (XC.out.trans ((ext_below hW3).mono XC.out.size))
     simp only [Act.put,List.setIfInBounds_toArray,List.set_cons_zero,List.set_cons_succ]
     clear hW3
     go_wp2
     all_goals
      go_ret
      exact⟨ret_int (by rw [HJ.out];simp_all),HX0.out.trans (X3.out.mono HX0.out.size)⟩
theorem jcheck_any (j:JidL) (w:World) (_:SzJ j) (hg:Glb w):Calls Tryz.prog 49 #[encJ j] w fun e w'=>e=.returned (.int .i64 (jidErr j))∧Below w.heap.size w w':=jcheckn_any j w hg
end Go.Proofs.YtnfokaecobddkaaGreatDoor
end
section
namespace Go.Proofs.YtnfokaecobddkaaGreatDoor
open Go.RowKit
set_option linter.unusedSimpArgs false
set_option linter.unusedVariables false
end Go.Proofs.YtnfokaecobddkaaGreatDoor
end
section
namespace Go.Proofs.YtnfokaecobddkaaGreatDoor
open Go.RowKit
set_option linter.unusedSimpArgs false
set_option linter.unusedVariables false
end Go.Proofs.YtnfokaecobddkaaGreatDoor
end
section
namespace Go.Proofs.YtnfokaecobddkaaGreatDoor
open Go.RowKit
set_option linter.unusedSimpArgs false
set_option linter.unusedVariables false
def JAt (w:World) (g:Nat) (l d r:ByteArray):Prop:=∃t,w.heap[g]? = some (.cells #[.string l,.string d,.string r] t (0,0))
variable {w w':World} {g:Nat} {l d r:ByteArray}
theorem JAt.c0 (h:JAt w g l d r):w.cell? ⟨g,0,none⟩=some (.string l):=by obtain⟨t,h⟩:=h;simp [World.cell?,h]
theorem JAt.c1 (h:JAt w g l d r):w.cell? ⟨g,1,none⟩=some (.string d):=by obtain⟨t,h⟩:=h;simp [World.cell?,h]
theorem JAt.c2 (h:JAt w g l d r):w.cell? ⟨g,2,none⟩=some (.string r):=by obtain⟨t,h⟩:=h;simp [World.cell?,h]
theorem JAt.fz (h:JAt w g l d r) (i:Nat):w.frozen? ⟨g,i,none⟩=false:=by obtain⟨t,h⟩:=h;exact frozen_of_row w g i _ _ h
theorem JAt.lt (h:JAt w g l d r):g < w.heap.size:=by obtain⟨t,h⟩:=h;exact(Array.getElem?_eq_some_iff.1 h).1
theorem JAt.ext (h:JAt w g l d r) (hb:Below w.heap.size w w'):JAt w' g l d r:=by obtain⟨t,h⟩:=h;exact⟨t,heap_ext h hb⟩
theorem JAt.extB {B:Nat} (h:JAt w g l d r) (hb:Below B w w') (hg:g < B):JAt w' g l d r:=by obtain⟨t,h⟩:=h;exact⟨t,(hb.block g hg).trans h⟩
theorem JAt.new (w:World) (t:TypeId) (l d r:ByteArray):JAt (w.alloc (.cells #[.string l,.string d,.string r] t)) w.heap.size l d r:=⟨t,heap_alloc_new w _⟩
theorem JAt.set0 (h:JAt w g l d r) (x:ByteArray):JAt (w.setCell ⟨g,0,none⟩ (.string x)) g x d r:=by obtain⟨t,h⟩:=h;exact⟨t,heap_setCell_same w g 0 _ _ _ h⟩
theorem JAt.set1 (h:JAt w g l d r) (x:ByteArray):JAt (w.setCell ⟨g,1,none⟩ (.string x)) g l x r:=by obtain⟨t,h⟩:=h;exact⟨t,heap_setCell_same w g 1 _ _ _ h⟩
theorem JAt.set2 (h:JAt w g l d r) (x:ByteArray):JAt (w.setCell ⟨g,2,none⟩ (.string x)) g l d x:=by obtain⟨t,h⟩:=h;exact⟨t,heap_setCell_same w g 2 _ _ _ h⟩
theorem JAt.other (h:JAt w g l d r) {g' o:Nat} (hne:g≠g') (u:Value):JAt (w.setCell ⟨g',o,none⟩ u) g l d r:=by obtain⟨t,h⟩:=h;exact⟨t,(heap_setCell_other w _ g _ hne).trans h⟩
theorem JAt.drew (h:JAt w g l d r):JAt w.drew g l d r:=h
end Go.Proofs.YtnfokaecobddkaaGreatDoor
end
section
namespace Go.Proofs.YtnfokaecobddkaaGreatDoor
open Go.RowKit
set_option linter.unusedSimpArgs false
set_option linter.unusedVariables false
theorem results_jid {P:Program} {fn:Func} {p s:Tmp} {ty:TypeId} {fs:Array Field} (h:fn.results=#[.cell p ty,.tmp s]) (tmps:Array Value) (w:World) (g:Nat) (t:TypeId) (cs:Array Value) (fr:Nat×Nat) (v:Value)
  (hp:tmps.getD p undef=.pointer (some ⟨g,0,none⟩)) (hs:tmps.getD s undef=v) (hg:w.heap[g]? = some (.cells cs t fr)) (hu:P.underlying ty=some (.struct fs)) (hi:(P.info? ty).map (·.size)=some cs.size) :
  (results fn tmps).run P w=.ok (.tuple #[.agg cs,v]) w:=by
 have hp':tmps[p]?.getD undef=.pointer (some ⟨g,0,none⟩):=by simpa using hp
 have hs':tmps[s]?.getD undef=v:=by simpa using hs
 simp [results,h,hp',hs',asAddr,run_loadVar_row w g t ty cs fr (.struct fs) hg hu rfl hi]
theorem jid_small {l d r:ByteArray} (h:jidI ⟨l,d,r⟩=true):l.size≤64∧d.size≤64∧r.size≤64:=by
 unfold jidI localI resI domI lenOK at h
 simp only [Bool.and_eq_true,Bool.or_eq_true,decide_eq_true_eq] at h
 obtain⟨⟨h1,h2⟩,h3⟩:=h
 refine⟨?_,by omega,?_⟩
 ·rcases h1 with h|h
  ·unfold isEmp at h;have:=of_decide_eq_true h;omega
  ·omega
 ·rcases h2 with h|h
  ·unfold isEmp at h;have:=of_decide_eq_true h;omega
  ·omega
set_option maxHeartbeats 4000000 in
set_option maxRecDepth 10000 in
theorem writen_any (j:JidL) (w:World) (hg:Glb w):Calls Tryz.prog 79 #[encJ j] w fun e w'=>(e=.returned (.tuple #[.string (if jidI j then textJ j else emB),.int .i64 (jidErr j)]))∧Below w.heap.size w w':=by
 obtain⟨l,d,r⟩:=j
 obtain⟨W0,hW0⟩:∃W0,W0=w.alloc (.cells #[.string l,.string d,.string r] 97):=⟨_,rfl⟩
 have hX0:Below w.heap.size w W0:=by rw [hW0];exact(Below.refl _ _).alloc (Nat.le_refl _) _
 have hJ:JAt W0 w.heap.size l d r:=by rw [hW0];exact JAt.new _ _ _ _ _
 have HJ:=Lib.hid hJ
 have HX0:=Lib.hid hX0
 have H:=Lib.hid (jcheckn_any ⟨l,d,r⟩ W0 (hg.below hX0))
 have HT:Box (textJ ⟨l,d,r⟩=(if isEmp l then d else l++(⟨#[64]⟩:ByteArray)++d)++(if isEmp r then emB else(⟨#[47]⟩:ByteArray)++r)):=⟨rfl⟩
 have HE:Box (jidErr ⟨l,d,r⟩=if jidI ⟨l,d,r⟩ then 0 else 8):=⟨rfl⟩
 have el:=emp_iff l
 have er:=emp_iff r
 have s64:((⟨#[64]⟩:ByteArray)).size=1:=rfl
 have s47:((⟨#[47]⟩:ByteArray)).size=1:=rfl
 have hsa:∀a b:ByteArray,(a++b).size=a.size+b.size:=fun a b=>by simp
 rw [hW0] at H HJ HX0
 clear hW0 hX0 hJ hg
 unfold encJ at H ⊢
 generalize textJ ⟨l,d,r⟩=q at *
 cases hj:jidI ⟨l,d,r⟩
 ·rw [hj] at HE
  have he:=HE.out
  simp only [Bool.false_eq_true,if_false] at he
  rw [he] at H ⊢
  clear hj HE he
  go_enter Tryz.func79,Tryz.ntmps79
  go_wp2_with fail
  refine H.out.mono ?_
  rintro e w1 ⟨rfl,hb1⟩
  go_wp2
  go_ret2
  exact⟨rfl,HX0.out.trans (hb1.mono HX0.out.size)⟩
 ·obtain⟨z0,z1,z2⟩:=jid_small hj
  rw [hj] at HE
  have he:=HE.out
  simp only [if_true] at he
  rw [he] at H ⊢
  clear hj HE he
  cases he1:isEmp l
  all_goals
   rw [he1] at el HT
   clear he1
   cases he2:isEmp r
   all_goals
    rw [he2] at er HT
    clear he2
    go_enter Tryz.func79,Tryz.ntmps79
    go_wp2_with fail
    refine H.out.mono ?_
    rintro e w1 ⟨rfl,hb1⟩
    have J1:=HJ.out.ext hb1
    have c0:=J1.c0
    have c1:=J1.c1
    have c2:=J1.c2
    have X1:=Lib.hid (HX0.out.trans (hb1.mono HX0.out.size))
    clear hb1 J1
    go_wp2
    go_ret2
    refine⟨?_,X1.out⟩
    rw [HT.out]
    simp only [Bool.false_eq_true,if_false,if_true]
    refine ret_two (congrArg Value.string ?_) rfl
    apply ba_ext
    simp [emB]
theorem write_any (j:JidL) (w:World) (_:SzJ j) (hg:Glb w):Calls Tryz.prog 79 #[encJ j] w fun e w'=>(e=.returned (.tuple #[.string (if jidI j then textJ j else emB),.int .i64 (jidErr j)]))∧Below w.heap.size w w':=writen_any j w hg
end Go.Proofs.YtnfokaecobddkaaGreatDoor
end
section
namespace Go.Proofs.YtnfokaecobddkaaGreatDoor
open Go.RowKit
set_option linter.unusedSimpArgs false
set_option linter.unusedVariables false
theorem scut9_any (s:ByteArray) (c:UInt8) (w:World) (hs:s.size≤9223372036854775807):Calls Tryz.prog 126 #[.string s,.string ⟨#[c]⟩] w (CutPost s (c.toNat:Int) w):=by
 have H:=Lib.hid (cut9_any s c w hs)
 go_enter Tryz.func126,Tryz.ntmps126
 go_wp2_with fail
 refine H.out.mono ?_
 rintro e w1 ⟨rfl,hb⟩
 have X:=Lib.hid hb
 clear hb
 go_wp2
 go_ret3
 exact⟨rfl,X.out⟩
theorem scut_any (s:ByteArray) (c:UInt8) (w:World) (hs:s.size≤1000000000):Calls Tryz.prog 126 #[.string s,.string ⟨#[c]⟩] w (CutPost s (c.toNat:Int) w):=scut9_any s c w (by omega)
theorem cut_sz (s:ByteArray) (c:Int):(cutI s c).1.size≤s.size∧(cutI s c).2.1.size≤s.size:=by
 have h0:(⟨#[]⟩:ByteArray).size=0:=rfl
 unfold cutI
 cases h:fstL (numsOf s) c <;> simp only [h0,ByteArray.size_extract] <;> omega
theorem full_cut (s:ByteArray):fullI s=(if (cutI s 58).2.2 then nameI (cutI s 58).1 && nameI (cutI s 58).2.1 else nameI s):=by
 unfold fullI cutI
 cases h:fstL (numsOf s) 58 <;> simp
theorem full_any (s:ByteArray) (w:World) (hs:s.size≤1000000000):Calls Tryz.prog 119 #[.string s] w fun e w'=>e=.returned (.bool (fullI s))∧Below w.heap.size w w':=by
 have H:=Lib.hid (scut_any s 58 w hs)
 have hz:=cut_sz s 58
 have HF:=Box.mk (full_cut s)
 have H1:=Lib.hid (fun W=>name_any (cutI s 58).1 W (by omega))
 have H2:=Lib.hid (fun W=>name_any (cutI s 58).2.1 W (by omega))
 have H3:=Lib.hid (fun W=>name_any s W hs)
 rw [show(((58:UInt8).toNat:Nat):Int)=58 from rfl] at H
 unfold CutPost at H
 clear hz
 generalize cutI s 58=cc at *
 obtain⟨a,b,is⟩:=cc
 dsimp only at H HF H1 H2
 generalize fullI s=r at *
 generalize nameI s=n0 at *
 generalize nameI a=n1 at *
 generalize nameI b=n2 at *
 cases is
 ·go_enter Tryz.func119,Tryz.ntmps119
  go_wp2_with fail
  refine H.out.mono ?_
  rintro e w1 ⟨rfl,hb⟩
  have X:=Lib.hid hb
  clear hb
  cases n0
  ·go_wp2_with fail
   refine(H3.out _).mono ?_
   rintro e w2 ⟨rfl,rfl⟩
   go_wp2
   go_ret
   exact⟨ret_bool (by rw [HF.out];rfl),X.out⟩
  ·go_wp2_with fail
   refine(H3.out _).mono ?_
   rintro e w2 ⟨rfl,rfl⟩
   go_wp2
   go_ret
   exact⟨ret_bool (by rw [HF.out];rfl),X.out⟩
 ·go_enter Tryz.func119,Tryz.ntmps119
  go_wp2_with fail
  refine H.out.mono ?_
  rintro e w1 ⟨rfl,hb⟩
  have X:=Lib.hid hb
  clear hb
  cases n1
  ·go_wp2_with fail
   refine(H1.out _).mono ?_
   rintro e w2 ⟨rfl,rfl⟩
   go_wp2
   go_ret
   exact⟨ret_bool (by rw [HF.out];rfl),X.out⟩
  ·go_wp2_with fail
   refine(H1.out _).mono ?_
   rintro e w2 ⟨rfl,rfl⟩
   go_wp2_with fail
   refine(H2.out _).mono ?_
   rintro e w2 ⟨rfl,rfl⟩
   go_wp2
   go_ret
   exact⟨ret_bool (by rw [HF.out];cases n2 <;> rfl),X.out⟩
end Go.Proofs.YtnfokaecobddkaaGreatDoor
end
