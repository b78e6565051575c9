/- Part 15 of a proof laid in parts, one behind the other; no condition of its own. -/
import Derived.Test.YtnfokaecobddkaaGreatDoorV14
import Derived.Test.YtnfokaecobddkaaGreatDoorV12
set_option linter.all false
section
namespace Go.Proofs.YtnfokaecobddkaaGreatDoor
open Go.RowKit
set_option linter.unusedSimpArgs false
set_option linter.unusedVariables false
def rosErr (l:List ItemL):Int:=if rosI l then 0 else 8
def rosErrV (l:List ItemL) (rv:Int):Int:=if rosI l && decide (0≤rv∧rv≤9007199254740991) then 0 else 8
theorem rowOK_0 (l:List ItemL) (x:ItemL):rowOK l 0 x=itemI x:=by unfold rowOK;simp
theorem rowOK_s (l:List ItemL) (m:Nat) (x y:ItemL) (hy:l[m]? = some y):rowOK l (m+1) x=(itemI x && lessJ (parsedJ y.jid) (parsedJ x.jid)):=by unfold rowOK;simp [hy]
set_option maxHeartbeats 16000000 in
set_option maxRecDepth 10000 in
theorem rcheckv_any (l:List ItemL) (rv:Int) (A:Option Addr) (c:Nat) (w:World) (hz:SzL l) (hr:RdI w A l) (hc:l.length≤c) (hg:Glb w) :
  Calls Tryz.prog 16 #[.agg #[.slice A l.length c,.int .i64 rv]] w fun e w'=>e=.returned (.int .i64 (rosErrV l rv))∧Below w.heap.size w w':=by
 obtain⟨W0,hW0⟩:∃W0,W0=w.alloc (.cells #[.slice A l.length c,.int .i64 rv] 41):=⟨_,rfl⟩
 have hX0:Below w.heap.size w W0:=by rw [hW0];exact(Below.refl _ _).alloc (Nat.le_refl _) _
 have R0:Hid (Row W0 w.heap.size #[.slice A l.length c,.int .i64 rv]):=Lib.hid (by rw [hW0];exact Row.new w _ _)
 have HR:=Lib.hid (hr.ext hX0)
 have HG:=Lib.hid (hg.below hX0)
 have X0:=Lib.hid hX0
 have HZ:=Lib.hid hz
 have hln:=hz.1
 have HI:Box (rosErrV l rv=if rosT l l.length && decide (l.length≤16) && decide (0≤rv∧rv≤9007199254740991) then 0 else 8):=⟨rfl⟩
 obtain⟨vb,hvb⟩:∃vb,vb=decide (0≤rv∧rv≤9007199254740991):=⟨_,rfl⟩
 rw [←hvb] at HI
 have HVB:=Lib.hid hvb
 clear hvb
 generalize rosErrV l rv=ri at *
 clear hX0 hr hg hz
 have EI:=Lib.hid (enters_of (P:=Tryz.prog) Tryz.func42 (by kernel_rfl) rfl)
 have EO:=Lib.hid (enters_of (P:=Tryz.prog) Tryz.func43 (by kernel_rfl) rfl)
 go_enter Tryz.func16,Tryz.ntmps16
 go_upto_region 1 with fail
 rw [←hW0]
 clear hW0
 have k0:W0.cell? ⟨w.heap.size,0,none⟩=some _:=R0.out.at' 0 rfl
 have k1:W0.cell? ⟨w.heap.size,1,none⟩=some _:=R0.out.at' 1 rfl
 go_wp2
 clear k0 k1
 go_loopw [3,4,8] (fun _ _ s8 wr=>∃k:Nat,k≤l.length∧s8=.int .i64 k∧Hid (Below W0.heap.size W0 wr)∧Hid (rosT l k=true)) (fun _ _ s8 _=>l.length - (intOf s8).toNat)
 case atStart=>exact⟨0,Nat.zero_le _,rfl,Lib.hid (Below.refl _ _),rfl⟩
 case round=>
  obtain⟨k,hk,rfl,HB,HT⟩:=hrel
  have XR:=Lib.hid (X0.out.trans (HB.out.mono X0.out.size))
  have Rr:=Lib.hid (R0.out.ext HB.out)
  by_cases hlt:k < l.length
  ·obtain⟨x,hx⟩:∃x,l[k]? = some x:=⟨_,List.getElem?_eq_getElem hlt⟩
   have HX:=Lib.hid hx
   obtain⟨b,off,rfl,hb,hcc⟩:=(HR.out.ext HB.out) (by omega)
   have HCC:=Lib.hid hcc
   obtain⟨A',c',hcell,hl',hA'⟩:=hcc k x hx
   have d0:=hcell 0 _ rfl
   have d1:=hcell 1 _ rfl
   have d2:=hcell 2 _ rfl
   have d3:=hcell 3 _ rfl
   have d4:=hcell 4 _ rfl
   have d5:=hcell 5 _ rfl
   have d6:=hcell 6 _ rfl
   have d7:=hcell 7 _ rfl
   rw [Nat.add_zero] at d0
   dsimp only [cI] at d0 d1 d2 d3 d4 d5 d6 d7
   have HZX:=Lib.hid (HZ.out.2 x (List.mem_of_getElem? hx))
   obtain⟨W1,hW1⟩:∃W1,W1=wr.alloc (.cells (cI x A' c') 48):=⟨_,rfl⟩
   have hX1:Below wr.heap.size wr W1:=by rw [hW1];exact(Below.refl _ _).alloc (Nat.le_refl _) _
   have HRA:=Lib.hid (RdS.ext hA' hX1)
   have I1:Hid (Row W1 wr.heap.size (cI x A' c')):=Lib.hid (by rw [hW1];exact Row.new wr _ _)
   have B1:=Lib.hid (HB.out.trans (hX1.mono HB.out.size))
   have Y1:=Lib.hid hX1
   have R1:=Lib.hid (Rr.out.ext hX1)
   have G1:=Lib.hid (HG.out.below B1.out)
   have X1:=Lib.hid (XR.out.trans (hX1.mono XR.out.size))
   have FI:=Lib.hid (fun W (hW:Ext W1.drew W)=>ritem_any x A' c' W HZX.out (RdS.ext HRA.out (ext_below hW)) hl' (G1.out.below (ext_below hW)))
   have GI:=Lib.hid (fun W (hW:Ext W1.drew W)=>I1.out.ext (ext_below hW))
   have GJ:=Lib.hid (fun W (hW:Ext W1.drew W)=>(I1.out.ext (ext_below hW)).at' 0 rfl)
   have GR:=Lib.hid (fun W (hW:Ext W1.drew W)=>(R1.out.ext (ext_below hW)).at' 0 rfl)
   have HNO:=Lib.hid (rosT_no l (k+1) l.length hlt)
   have HSU:Box (rosT l (k+1)=rowOK l k x):=⟨by rw [rosT_succ l k x hx,HT.out,Bool.true_and]⟩
   clear hcell hcc hX1 hA' hx
   unfold cI at hW1
   go_upto_region 4 with fail
   rw [←hW1]
   clear hW1 d0 d1 d2 d3 d4 d5 d6 d7
   rcases Nat.eq_zero_or_pos k with h0|h0
   ·subst h0
    rw [rowOK_0] at HSU
    generalize itemI x=ix at *
    cases ix
    ·refine wp_region_typed rfl (by kernel_rfl) (by kernel_rfl) ?_
     repeat (first|refine tw_skip (wd_un rfl rfl rfl) ?_|refine tw_ldRow (cI x A' c') Tryz.underlying48 (by kernel_rfl) rfl rfl GI.out (wdA rfl) ?_|refine tw_fnB #[encT x A' c'] _ rfl (fun W=>EI.out _ W) rfl (wdA rfl) FI.out ?_|refine tw_skip (wd_no rfl rfl rfl) ?_|refine tw_mv (.inl rfl) rfl (wdA rfl) ?_|refine tw_mv (.inr rfl) rfl (wdA rfl) ?_|refine tw_pickL rfl rfl rfl (wdA rfl) ?_|refine tw_op1 _ rfl rfl (wdA rfl) (fun ρ W hW h1=>by simp only [execOp,h1];go_simp;first|done|rfl) ?_|refine tw_op2 _ rfl rfl rfl (wdA rfl) (fun ρ W hW h1 h2=>by simp only [execOp,h1,h2];go_simp;first|done|rfl) ?_)
     dsimp only [wpT,List.reverse,List.reverseAux,FinT]
     intro W5 hW5 _
     simp only [Act.put,List.setIfInBounds_toArray,List.set_cons_zero,List.set_cons_succ]
     have X5:=Lib.hid (X1.out.trans ((ext_below hW5).mono X1.out.size))
     clear hW5
     go_wp2
     go_ret
     exact⟨ret_int (by rw [HI.out,HNO.out HSU.out];rfl),X5.out⟩
    ·refine wp_region_typed rfl (by kernel_rfl) (by kernel_rfl) ?_
     repeat (first|refine tw_skip (wd_un rfl rfl rfl) ?_|refine tw_ldRow (cI x A' c') Tryz.underlying48 (by kernel_rfl) rfl rfl GI.out (wdA rfl) ?_|refine tw_fnB #[encT x A' c'] _ rfl (fun W=>EI.out _ W) rfl (wdA rfl) FI.out ?_|refine tw_skip (wd_no rfl rfl rfl) ?_|refine tw_mv (.inl rfl) rfl (wdA rfl) ?_|refine tw_mv (.inr rfl) rfl (wdA rfl) ?_|refine tw_pickL rfl rfl rfl (wdA rfl) ?_|refine tw_op1 _ rfl rfl (wdA rfl) (fun ρ W hW h1=>by simp only [execOp,h1];go_simp;first|done|rfl) ?_|refine tw_op2 _ rfl rfl rfl (wdA rfl) (fun ρ W hW h1 h2=>by simp only [execOp,h1,h2];go_simp;first|done|rfl) ?_)
     dsimp only [wpT,List.reverse,List.reverseAux,FinT]
     intro W5 hW5 _
     simp only [Act.put,List.setIfInBounds_toArray,List.set_cons_zero,List.set_cons_succ]
     have B5:=Lib.hid (B1.out.trans ((ext_below hW5).mono B1.out.size))
     clear hW5
     go_wp2
     go_roundw
     case rel=>exact⟨0+1,by omega,by go_num,B5,Lib.hid HSU.out⟩
     case measure=>simp [intOf];omega
   ·obtain⟨m,rfl⟩:∃m,k=m+1:=⟨k - 1,by omega⟩
    obtain⟨y,hy⟩:∃y,l[m]? = some y:=⟨_,List.getElem?_eq_getElem (by omega)⟩
    rw [rowOK_s l m x y hy] at HSU
    have hml:m < l.length:=by omega
    obtain⟨Ay,cy,hcy,-,-⟩:=HCC.out m y hy
    have e0:=hcy 0 _ rfl
    rw [Nat.add_zero] at e0
    dsimp only [cI] at e0
    have GY:=Lib.hid (fun W (hW:Ext W1.drew W)=>((Y1.out.trans ((ext_below hW).mono Y1.out.size)).cell (p:=⟨b,off+m*8,none⟩) hb).trans e0)
    have HZY:=Lib.hid (HZ.out.2 y (List.mem_of_getElem? hy))
    have FO:=Lib.hid (fun W (hW:Ext W1.drew W)=>order_any y.jid x.jid W HZY.out.1 HZX.out.1 (G1.out.below (ext_below hW)))
    have HOG:=Box.mk (ordS_ge y.jid x.jid)
    generalize ordS y.jid x.jid=oo at *
    generalize lessJ (parsedJ y.jid) (parsedJ x.jid)=lj at *
    generalize itemI x=ix at *
    have hgt:decide ((0:Int) < ((m+1:Nat):Int))=true:=by simp
    clear hcy e0 hy
    cases ix
    ·refine wp_region_typed rfl (by kernel_rfl) (by kernel_rfl) ?_
     repeat (first|refine tw_skip (wd_un rfl rfl rfl) ?_|refine tw_ldRow (cI x A' c') Tryz.underlying48 (by kernel_rfl) rfl rfl GI.out (wdA rfl) ?_|refine tw_fnB #[encT x A' c'] _ rfl (fun W=>EI.out _ W) rfl (wdA rfl) FI.out ?_|refine tw_skip (wd_no rfl rfl rfl) ?_|refine tw_mv (.inl rfl) rfl (wdA rfl) ?_|refine tw_mv (.inr rfl) rfl (wdA rfl) ?_|refine tw_pickL rfl rfl rfl (wdA rfl) ?_|refine tw_op1 _ rfl rfl (wdA rfl) (fun ρ W hW h1=>by simp only [execOp,h1];go_simp;first|done|rfl) ?_|refine tw_op2 _ rfl rfl rfl (wdA rfl) (fun ρ W hW h1 h2=>by simp only [execOp,h1,h2];go_simp;first|done|rfl) ?_)
     dsimp only [wpT,List.reverse,List.reverseAux,FinT]
     intro W5 hW5 _
     simp only [Act.put,List.setIfInBounds_toArray,List.set_cons_zero,List.set_cons_succ]
     have X5:=Lib.hid (X1.out.trans ((ext_below hW5).mono X1.out.size))
     clear hW5
     go_wp2
     go_ret
     exact⟨ret_int (by rw [HI.out,HNO.out HSU.out];rfl),X5.out⟩
    ·have hog:=HOG.out
     cases lj
     all_goals
      refine wp_region_typed rfl (by kernel_rfl) (by kernel_rfl) ?_
      repeat (first|refine tw_skip (wd_un rfl rfl rfl) ?_|refine tw_ldRow (cI x A' c') Tryz.underlying48 (by kernel_rfl) rfl rfl GI.out (wdA rfl) ?_|refine tw_fnB #[encT x A' c'] _ rfl (fun W=>EI.out _ W) rfl (wdA rfl) FI.out ?_|refine tw_ldS rfl rfl GJ.out (wdA rfl) ?_|refine tw_ldL8 rfl rfl GR.out (wdA rfl) ?_|refine tw_sub1 (by omega) rfl rfl (wdA rfl) ?_|refine tw_ixI hml (by omega) rfl rfl rfl (wdA rfl) ?_|refine tw_ldS rfl rfl GY.out (wdA rfl) ?_|refine tw_fnB #[.string y.jid,.string x.jid] _ rfl (fun W=>EO.out _ W) rfl (wdA rfl) FO.out ?_|refine tw_skip (wd_no rfl rfl rfl) ?_|refine tw_mv (.inl rfl) rfl (wdA rfl) ?_|refine tw_mv (.inr rfl) rfl (wdA rfl) ?_|refine tw_pickL rfl rfl rfl (wdA rfl) ?_|refine tw_op1 _ rfl rfl (wdA rfl) (fun ρ W hW h1=>by simp only [execOp,h1];go_simp;first|done|rfl) ?_|refine tw_op2 _ rfl rfl rfl (wdA rfl) (fun ρ W hW h1 h2=>by simp only [execOp,h1,h2];go_simp;first|done|rfl) ?_)
      dsimp only [wpT,List.reverse,List.reverseAux,FinT]
      intro W5 hW5 _
      simp only [Act.put,List.setIfInBounds_toArray,List.set_cons_zero,List.set_cons_succ]
      have X5:=Lib.hid (X1.out.trans ((ext_below hW5).mono X1.out.size))
      have B5:=Lib.hid (B1.out.trans ((ext_below hW5).mono B1.out.size))
      clear hW5
     ·go_wp2
      go_ret
      exact⟨ret_int (by rw [HI.out,HNO.out HSU.out];rfl),X5.out⟩
     ·go_wp2
      go_roundw
      case rel=>exact⟨m+1+1,by omega,by go_num,B5,Lib.hid HSU.out⟩
      case measure=>simp [intOf];omega
  ·obtain rfl:k=l.length:=by omega
   have HIw:Box (ri=if decide (l.length≤16) && vb then 0 else 8):=⟨by rw [HI.out,HT.out,Bool.true_and]⟩
   have k0:wr.cell? ⟨w.heap.size,0,none⟩=some _:=Rr.out.at' 0 rfl
   have k1:wr.cell? ⟨w.heap.size,1,none⟩=some _:=Rr.out.at' 1 rfl
   have hvb:=HVB.out
   by_cases h16:l.length≤16
   ·have h16i:¬((l.length:Int) > 16):=by omega
    rw [decide_eq_true h16,Bool.true_and] at HIw
    by_cases hv0:rv < 0
    ·rw [decide_eq_false (by omega)] at hvb
     subst hvb
     go_wp2
     go_ret
     exact⟨ret_int (by rw [HIw.out];rfl),XR.out⟩
    ·by_cases hv1:rv > 9007199254740991
     ·rw [decide_eq_false (by omega)] at hvb
      subst hvb
      go_wp2
      go_ret
      exact⟨ret_int (by rw [HIw.out];rfl),XR.out⟩
     ·rw [decide_eq_true (by omega)] at hvb
      subst hvb
      go_wp2
      go_ret
      exact⟨ret_int (by rw [HIw.out];rfl),XR.out⟩
   ·have h16i:((l.length:Int) > 16):=by omega
    rw [decide_eq_false h16,Bool.false_and] at HIw
    clear hvb
    go_wp2
    go_ret
    exact⟨ret_int (by rw [HIw.out];rfl),XR.out⟩
theorem rosErrV_0 (l:List ItemL):rosErrV l 0=rosErr l:=by
 unfold rosErrV rosErr
 rw [show decide ((0:Int)≤0∧(0:Int)≤9007199254740991)=true by decide,Bool.and_true]
theorem rcheck_any (l:List ItemL) (A:Option Addr) (c:Nat) (w:World) (hz:SzL l) (hr:RdI w A l) (hc:l.length≤c) (hg:Glb w) :
  Calls Tryz.prog 16 #[.agg #[.slice A l.length c,.int .i64 0]] w fun e w'=>e=.returned (.int .i64 (rosErr l))∧Below w.heap.size w w':=by
 have:=rcheckv_any l 0 A c w hz hr hc hg
 rw [rosErrV_0] at this
 exact this
end Go.Proofs.YtnfokaecobddkaaGreatDoor
end
section
namespace Go.Proofs.YtnfokaecobddkaaGreatDoor
open Go.RowKit
set_option linter.unusedSimpArgs false
set_option linter.unusedVariables false
end Go.Proofs.YtnfokaecobddkaaGreatDoor
end
section
namespace Go.Proofs.YtnfokaecobddkaaGreatDoor
open Go.RowKit
set_option linter.unusedSimpArgs false
set_option linter.unusedVariables false
theorem newv_one {base:Nat} {w:World} {n:NodeL} {A:Option Addr} {c:Nat} (hA:NewA base w.heap.size w A n.attrs) (hc:n.attrs.length≤c) (hb:base≤w.heap.size) :
  NewV base (w.alloc (.cells #[.int .u8 n.kind,.string n.space,.string n.name,.slice A n.attrs.length c,.string n.text,.int .i64 n.many] 69)) (some ⟨w.heap.size,0,none⟩) 1 [n]:=by
 refine⟨[(n,A,c)],rfl,⟨rfl,.inr ⟨w.heap.size,1,_,rfl,hb,heap_alloc_new w _,Nat.le_refl _,by unfold maxLen;omega,rfl,rfl⟩⟩,fun i x hi=>?_⟩
 cases i with
 | succ i=>simp at hi
 | zero=>
  simp only [List.getElem?_cons_zero,Option.some.injEq] at hi
  subst hi
  exact⟨hc,hA.ext ((Below.refl _ _).alloc (Nat.le_refl _) _)⟩
theorem group_sz:SzN 1000000000 (groupN 0):=
 ⟨⟨by show(0:Int)≤1;omega,by show(1:Int) < 256;omega⟩,by show(16:Nat)≤_;omega,by show(5:Nat)≤_;omega,⟨Nat.zero_le _,fun a ha=>by cases ha⟩,Nat.zero_le _,by show(_:Int)≤0;omega,by show(0:Int)≤_;omega⟩
theorem textN_sz {g:ByteArray} (h:g.size≤1000000000):SzN 1000000000 (textN g):=
 ⟨⟨by show(0:Int)≤2;omega,by show(2:Int) < 256;omega⟩,Nat.zero_le _,Nat.zero_le _,⟨Nat.zero_le _,fun a ha=>by cases ha⟩,h,by show(_:Int)≤0;omega,by show(0:Int)≤_;omega⟩
theorem textN_szw {g:ByteArray} (h:g.size≤1000000000):SzW [[textN g]]:=by
 refine⟨by show(1:Nat)≤_;omega,fun v hv=>?_⟩
 rw [List.mem_singleton.1 hv]
 refine⟨by show(1:Nat)≤_;omega,fun n hn=>?_⟩
 rw [List.mem_singleton.1 hn]
 exact textN_sz h
theorem gtree_szv {g:ByteArray} (h:g.size≤1000000000):SzV 1000000000 (gtree g):=by
 refine⟨by show(2:Nat)≤_;omega,fun n hn=>?_⟩
 unfold gtree at hn
 rcases List.mem_cons.1 hn with rfl|hn
 ·exact⟨⟨by show(0:Int)≤1;omega,by show(1:Int) < 256;omega⟩,by show(16:Nat)≤_;omega,by show(5:Nat)≤_;omega,⟨Nat.zero_le _,fun a ha=>by cases ha⟩,Nat.zero_le _,by show(_:Int)≤1;omega,by show(1:Int)≤_;omega⟩
 ·rw [List.mem_singleton.1 hn]
  exact textN_sz h
theorem groups_szw {x:ItemL} (h:SzI x):SzW (x.groups.map gtree):=by
 refine⟨by rw [List.length_map];have:=h.2.2.1;omega,fun v hv=>?_⟩
 obtain⟨g,hg,rfl⟩:=List.mem_map.1 hv
 exact gtree_szv (h.2.2.2 g hg)
theorem wordSub_sz (x:ItemL):(wordSub x).size≤4:=by unfold wordSub;split <;> (try split) <;> (try split) <;> decide
theorem asksB_sz (x:ItemL):(asksB x).size≤9:=by unfold asksB;split <;> decide
theorem itemN_sz {x:ItemL} (h:SzI x):SzN 1000000000 (itemN x):=by
 have h1:=wordSub_sz x
 have h2:=asksB_sz x
 have hl:(attrsIt x).length≤4:=by
  unfold attrsIt
  have q1:=withA_len [] (⟨#[106,105,100]⟩:ByteArray) x.jid
  have q2:=withA_len (withA [] (⟨#[106,105,100]⟩:ByteArray) x.jid) (⟨#[110,97,109,101]⟩:ByteArray) x.name
  have q3:=withA_len (withA (withA [] (⟨#[106,105,100]⟩:ByteArray) x.jid) (⟨#[110,97,109,101]⟩:ByteArray) x.name) (⟨#[115,117,98,115,99,114,105,112,116,105,111,110]⟩:ByteArray) (wordSub x)
  have q4:=withA_len (withA (withA (withA [] (⟨#[106,105,100]⟩:ByteArray) x.jid) (⟨#[110,97,109,101]⟩:ByteArray) x.name) (⟨#[115,117,98,115,99,114,105,112,116,105,111,110]⟩:ByteArray) (wordSub x)) (⟨#[97,115,107]⟩:ByteArray) (asksB x)
  simp only [List.length_nil] at q1
  omega
 refine⟨⟨by show(0:Int)≤1;omega,by show(1:Int) < 256;omega⟩,by show(16:Nat)≤_;omega,by show(4:Nat)≤_;omega,⟨by show(attrsIt x).length≤_;omega,?_⟩,Nat.zero_le _,by show(_:Int)≤0;omega,by show(0:Int)≤_;omega⟩
 exact withA_sz (withA_sz (withA_sz (withA_sz (fun a ha=>by cases ha) (by decide) h.1) (by decide) h.2.1) (by decide) (by omega)) (by decide) (by omega)
theorem txt_load (w:World) (g:ByteArray):∃W,W=(w.alloc (.cells #[.int .u8 2,.string ⟨#[]⟩,.string ⟨#[]⟩,.slice none 0 0,.string g,.int .i64 0] 69)).alloc (.cells #[.slice (some ⟨w.heap.size,0,none⟩) 1 1] 30)∧RdW W W.heap.size (some ⟨w.heap.size+1,0,none⟩) [[textN g]]∧Below w.heap.size w W:=by
 refine⟨_,rfl,?_,((Below.refl _ _).alloc (Nat.le_refl _) _).alloc (by simp) _⟩
 have h1:=al_at w ((w.alloc (.cells #[.int .u8 2,.string ⟨#[]⟩,.string ⟨#[]⟩,.slice none 0 0,.string g,.int .i64 0] 69)).alloc (.cells #[.slice (some ⟨w.heap.size,0,none⟩) 1 1] 30)) _ _ rfl ((Below.refl _ _).alloc (by simp) _)
 have h2:=al_at (w.alloc (.cells #[.int .u8 2,.string ⟨#[]⟩,.string ⟨#[]⟩,.slice none 0 0,.string g,.int .i64 0] 69)) ((w.alloc (.cells #[.int .u8 2,.string ⟨#[]⟩,.string ⟨#[]⟩,.slice none 0 0,.string g,.int .i64 0] 69)).alloc (.cells #[.slice (some ⟨w.heap.size,0,none⟩) 1 1] 30)) _ (w.heap.size+1) (by simp) (Below.refl _ _)
 generalize ((w.alloc (.cells #[.int .u8 2,.string ⟨#[]⟩,.string ⟨#[]⟩,.slice none 0 0,.string g,.int .i64 0] 69)).alloc (.cells #[.slice (some ⟨w.heap.size,0,none⟩) 1 1] 30))=W at *
 have l1:=(Array.getElem?_eq_some_iff.1 h1).1
 have l2:=(Array.getElem?_eq_some_iff.1 h2).1
 have hV:RdV W W.heap.size (some ⟨w.heap.size,0,none⟩) [textN g]:=rdv_one (n:=textN g) (A:=none) (c:=0) h1 l1 (fun h=>absurd h (by simp [textN])) (Nat.zero_le _)
 refine fun _=>⟨w.heap.size+1,0,rfl,l2,fun i v hi=>?_⟩
 cases i with
 | succ i=>simp at hi
 | zero=>
  simp only [List.getElem?_cons_zero,Option.some.injEq] at hi
  subst hi
  exact⟨some ⟨w.heap.size,0,none⟩,1,by simp [World.cell?,h2],Nat.le_refl _,hV⟩
set_option maxHeartbeats 4000000 in
set_option maxRecDepth 10000 in
theorem sitem_gone (x:ItemL) (A:Option Addr) (c:Nat) (w:World) :
  Calls Tryz.prog 45 #[encT x A c,.bool true] w (TwinPost (itemT true x) w):=by
 obtain⟨W0,hW0⟩:∃W0,W0=w.alloc (.cells (cI x A c) 48):=⟨_,rfl⟩
 have hX0:Below w.heap.size w W0:=by rw [hW0];exact(Below.refl _ _).alloc (Nat.le_refl _) _
 have R0:Hid (Row W0 w.heap.size (cI x A c)):=Lib.hid (by rw [hW0];exact Row.new w _ _)
 obtain⟨W1,hW1⟩:∃W1,W1=W0.alloc (.cells #[.string (⟨#[106,105,100]⟩:ByteArray),.string x.jid,.string (⟨#[110,97,109,101]⟩:ByteArray),.string x.name,.string (⟨#[115,117,98,115,99,114,105,112,116,105,111,110]⟩:ByteArray),.string (⟨#[114,101,109,111,118,101]⟩:ByteArray)] 9):=⟨_,rfl⟩
 have hX1:Below W0.heap.size W0 W1:=by rw [hW1];exact(Below.refl _ _).alloc (Nat.le_refl _) _
 have hR1:RdS W1 (some ⟨W0.heap.size,0,none⟩) [(⟨#[106,105,100]⟩:ByteArray),x.jid,(⟨#[110,97,109,101]⟩:ByteArray),x.name,(⟨#[115,117,98,115,99,114,105,112,116,105,111,110]⟩:ByteArray),(⟨#[114,101,109,111,118,101]⟩:ByteArray)]:=by rw [hW1];exact RdS.new W0 9 [(⟨#[106,105,100]⟩:ByteArray),x.jid,(⟨#[110,97,109,101]⟩:ByteArray),x.name,(⟨#[115,117,98,115,99,114,105,112,116,105,111,110]⟩:ByteArray),(⟨#[114,101,109,111,118,101]⟩:ByteArray)]
 have HE:=Lib.hid (elem_any (⟨#[106,97,98,98,101,114,58,105,113,58,114,111,115,116,101,114]⟩:ByteArray) (⟨#[105,116,101,109]⟩:ByteArray) [(⟨#[106,105,100]⟩:ByteArray),x.jid,(⟨#[110,97,109,101]⟩:ByteArray),x.name,(⟨#[115,117,98,115,99,114,105,112,116,105,111,110]⟩:ByteArray),(⟨#[114,101,109,111,118,101]⟩:ByteArray)] (some ⟨W0.heap.size,0,none⟩) 6 W1 hR1 (by simp))
 rw [show pairsT [(⟨#[106,105,100]⟩:ByteArray),x.jid,(⟨#[110,97,109,101]⟩:ByteArray),x.name,(⟨#[115,117,98,115,99,114,105,112,116,105,111,110]⟩:ByteArray),(⟨#[114,101,109,111,118,101]⟩:ByteArray)] (([(⟨#[106,105,100]⟩:ByteArray),x.jid,(⟨#[110,97,109,101]⟩:ByteArray),x.name,(⟨#[115,117,98,115,99,114,105,112,116,105,111,110]⟩:ByteArray),(⟨#[114,101,109,111,118,101]⟩:ByteArray)]:List ByteArray).length / 2)=attrsGo x from by dsimp only [List.length_cons,List.length_nil];rfl] at HE
 have HT:Hid (itemT true x=[⟨1,(⟨#[106,97,98,98,101,114,58,105,113,58,114,111,115,116,101,114]⟩:ByteArray),(⟨#[105,116,101,109]⟩:ByteArray),attrsGo x,emB,0⟩]):=rfl
 unfold ElemE encN mkN emB at HE
 dsimp only [List.length_cons,List.length_nil] at HE
 have X1:=Lib.hid (hX0.trans (hX1.mono hX0.size))
 have HW0:=Lib.hid hW0
 have HW1:=Lib.hid hW1
 clear hX0 hX1 hW0 hW1 hR1
 generalize itemT true x=T at *
 generalize attrsGo x=L at *
 unfold encT
 unfold cI at *
 generalize x.jid=xj at *
 generalize x.name=xn at *
 go_enter Tryz.func45,Tryz.ntmps45
 go_upto_region 1 with fail
 rw [←HW0.out]
 clear HW0
 have k0:W0.cell? ⟨w.heap.size,0,none⟩=some _:=R0.out.at' 0 rfl
 have k1:W0.cell? ⟨w.heap.size,1,none⟩=some _:=R0.out.at' 1 rfl
 have k2:W0.cell? ⟨w.heap.size,2,none⟩=some _:=R0.out.at' 2 rfl
 have k3:W0.cell? ⟨w.heap.size,3,none⟩=some _:=R0.out.at' 3 rfl
 have k4:W0.cell? ⟨w.heap.size,4,none⟩=some _:=R0.out.at' 4 rfl
 have k5:W0.cell? ⟨w.heap.size,5,none⟩=some _:=R0.out.at' 5 rfl
 have k6:W0.cell? ⟨w.heap.size,6,none⟩=some _:=R0.out.at' 6 rfl
 have k7:W0.cell? ⟨w.heap.size,7,none⟩=some _:=R0.out.at' 7 rfl
 go_wp2_with fail
 rw [←HW1.out]
 refine HE.out.mono ?_
 rintro e w2 ⟨A2,c2,rfl,hl2,hn2,hb2⟩
 have X2:=Lib.hid (X1.out.trans (hb2.mono X1.out.size))
 have HN:=Lib.hid (newv_one (base:=w.heap.size) (n:=⟨1,(⟨#[106,97,98,98,101,114,58,105,113,58,114,111,115,116,101,114]⟩:ByteArray),(⟨#[105,116,101,109]⟩:ByteArray),L,emB,0⟩) (fun h0=>by
  obtain⟨b,off,q1,q2,q3⟩:=hn2 h0
  exact⟨b,off,q1,Nat.le_trans X1.out.size q2,q3⟩) hl2 X2.out.size)
 have X3:=Lib.hid (X2.out.alloc X2.out.size (.cells #[.int .u8 1,.string (⟨#[106,97,98,98,101,114,58,105,113,58,114,111,115,116,101,114]⟩:ByteArray),.string (⟨#[105,116,101,109]⟩:ByteArray),.slice A2 L.length c2,.string ⟨#[]⟩,.int .i64 0] 69))
 unfold emB at HN
 dsimp only at HN
 clear hl2 hn2 hb2 k0 k1 k2 k3 k4 k5 k6 k7 R0 HE HW1
 go_wp2
 go_ret
 rw [HT.out]
 exact⟨some ⟨w2.heap.size,0,none⟩,1,rfl,Nat.le_refl _,HN.out,X3.out⟩
end Go.Proofs.YtnfokaecobddkaaGreatDoor
end
section
namespace Go.Proofs.YtnfokaecobddkaaGreatDoor
open Go.RowKit
set_option linter.unusedSimpArgs false
set_option linter.unusedVariables false
theorem pairs_item (x:ItemL):pairsT [(⟨#[106,105,100]⟩:ByteArray),x.jid,(⟨#[110,97,109,101]⟩:ByteArray),x.name,(⟨#[115,117,98,115,99,114,105,112,116,105,111,110]⟩:ByteArray),wordSub x,(⟨#[97,115,107]⟩:ByteArray),asksB x] (([(⟨#[106,105,100]⟩:ByteArray),x.jid,(⟨#[110,97,109,101]⟩:ByteArray),x.name,(⟨#[115,117,98,115,99,114,105,112,116,105,111,110]⟩:ByteArray),wordSub x,(⟨#[97,115,107]⟩:ByteArray),asksB x]:List ByteArray).length / 2)=attrsIt x:=by
 dsimp only [List.length_cons,List.length_nil];rfl
theorem gtree_two (g:ByteArray):(gtree g).length=2:=rfl
set_option maxHeartbeats 16000000 in
set_option maxRecDepth 10000 in
theorem sitem_here (x:ItemL) (A:Option Addr) (c:Nat) (w:World) (hz:SzI x) (hr:RdS w A x.groups) (hc:x.groups.length≤c) (hi:itemI x=true) :
  Calls Tryz.prog 45 #[encT x A c,.bool false] w (TwinPost (itemT false x) w):=by
 obtain⟨W0,hW0⟩:∃W0,W0=w.alloc (.cells (cI x A c) 48):=⟨_,rfl⟩
 have hX0:Below w.heap.size w W0:=by rw [hW0];exact(Below.refl _ _).alloc (Nat.le_refl _) _
 have R0:Hid (Row W0 w.heap.size (cI x A c)):=Lib.hid (by rw [hW0];exact Row.new w _ _)
 have hsub:subI x=true:=by
  unfold itemI at hi
  simp only [Bool.and_eq_true] at hi
  exact hi.1.2
 have HNM:=Lib.hid (fun W=>subname_any x W hsub)
 have HPI:=Lib.hid (fun(Aq:Option Addr) (cq:Nat) (B:Option Addr) (cb:Nat) (W:World) (h1:RdA W W.heap.size B (attrsIt x)) (h2:(attrsIt x).length≤cb) (h3:RdW W W.heap.size Aq (x.groups.map gtree))=>put_node (itemN x) B cb (x.groups.map gtree) Aq cq W (itemN_sz hz) h1 h2 (groups_szw hz) h3)
 unfold PutPost at HPI
 rw [(item_put hi).1,(item_put hi).2,List.length_map] at HPI
 unfold encN itemN at HPI
 have HE:=Lib.hid (fun(B:Option Addr) (W:World) (h:RdS W B [(⟨#[106,105,100]⟩:ByteArray),x.jid,(⟨#[110,97,109,101]⟩:ByteArray),x.name,(⟨#[115,117,98,115,99,114,105,112,116,105,111,110]⟩:ByteArray),wordSub x,(⟨#[97,115,107]⟩:ByteArray),asksB x])=>elem_any rosN (⟨#[105,116,101,109]⟩:ByteArray) [(⟨#[106,105,100]⟩:ByteArray),x.jid,(⟨#[110,97,109,101]⟩:ByteArray),x.name,(⟨#[115,117,98,115,99,114,105,112,116,105,111,110]⟩:ByteArray),wordSub x,(⟨#[97,115,107]⟩:ByteArray),asksB x] B 8 W h (by simp))
 rw [pairs_item] at HE
 unfold ElemE encN mkN at HE
 dsimp only [List.length_cons,List.length_nil] at HE
 have HG:=Lib.hid (fun(W:World)=>elem_any rosN (⟨#[103,114,111,117,112]⟩:ByteArray) [] none 0 W (fun h=>absurd h (by decide)) (by simp))
 rw [show pairsT [] (([]:List ByteArray).length / 2)=[] from rfl] at HG
 unfold ElemE encN mkN at HG
 dsimp only [List.length_nil] at HG
 have HGT:=Lib.hid (fun(g:ByteArray) (hg:g∈x.groups) (B:Option Addr) (cb:Nat) (Aq:Option Addr) (W:World) (h:RdW W W.heap.size Aq [[textN g]])=>put_node (groupN 0) B cb [[textN g]] Aq 1 W group_sz (fun h0=>absurd h0 (by decide)) (Nat.zero_le _) (textN_szw (hz.2.2.2 g hg)) h)
 unfold PutPost at HGT
 have HGP:=Lib.hid (fun(g:ByteArray) (hg:g∈x.groups)=>group_put ((groups_ok hi).2 g hg).1 ((groups_ok hi).2 g hg).2)
 unfold encN groupN at HGT HGP
 unfold rosN emB at *
 dsimp only [List.length_cons,List.length_nil] at HGT HPI HE HG HGP
 have hln:=(groups_ok hi).1
 have HASK:Box (asksB x=if x.out then(⟨#[115,117,98,115,99,114,105,98,101]⟩:ByteArray) else⟨#[]⟩):=⟨rfl⟩
 have HR:=Lib.hid (hr.ext hX0)
 have X0:=Lib.hid hX0
 have HW0:=Lib.hid hW0
 clear hX0 hW0 hr hz hi hsub
 unfold TwinPost
 unfold encT
 unfold cI at *
 generalize itemT false x=T at *
 generalize attrsIt x=L at *
 generalize wordSub x=ws at *
 generalize asksB x=ask at *
 generalize x.groups=gs at *
 generalize x.jid=xj at *
 generalize x.name=xn at *
 cases ho:x.out
 all_goals
  rw [ho] at HASK HNM R0 HW0
  have hask:=HASK.out
  try simp only [Bool.false_eq_true,if_false] at hask
  try simp only [if_true] at hask
  have HAK:=Lib.hid hask
  clear HASK ho hask
  generalize x.to=xt at *
  generalize x.frm=xf at *
  generalize x.inn=xi at *
  generalize x.known=xk at *
  go_enter Tryz.func45,Tryz.ntmps45
  go_upto_region 1 with fail
  rw [←HW0.out]
  clear HW0
  have k0:W0.cell? ⟨w.heap.size,0,none⟩=some _:=R0.out.at' 0 rfl
  have k1:W0.cell? ⟨w.heap.size,1,none⟩=some _:=R0.out.at' 1 rfl
  have k2:W0.cell? ⟨w.heap.size,2,none⟩=some _:=R0.out.at' 2 rfl
  have k3:W0.cell? ⟨w.heap.size,3,none⟩=some _:=R0.out.at' 3 rfl
  have k4:W0.cell? ⟨w.heap.size,4,none⟩=some _:=R0.out.at' 4 rfl
  have k5:W0.cell? ⟨w.heap.size,5,none⟩=some _:=R0.out.at' 5 rfl
  have k6:W0.cell? ⟨w.heap.size,6,none⟩=some _:=R0.out.at' 6 rfl
  have k7:W0.cell? ⟨w.heap.size,7,none⟩=some _:=R0.out.at' 7 rfl
  go_wp2_with fail
  refine(HNM.out _).mono ?_
  rintro e w1 ⟨rfl,hb1⟩
  have X1:=Lib.hid (X0.out.trans (hb1.mono X0.out.size))
  have R1:=Lib.hid (R0.out.ext hb1)
  have HR1:=Lib.hid (HR.out.ext hb1)
  clear hb1 k0 k1 k2 k3 k4 k5 k6 k7 R0 HR X0 HNM
  have k0:w1.cell? ⟨w.heap.size,0,none⟩=some _:=R1.out.at' 0 rfl
  have k1:w1.cell? ⟨w.heap.size,1,none⟩=some _:=R1.out.at' 1 rfl
  have k2:w1.cell? ⟨w.heap.size,2,none⟩=some _:=R1.out.at' 2 rfl
  have k3:w1.cell? ⟨w.heap.size,3,none⟩=some _:=R1.out.at' 3 rfl
  have k4:w1.cell? ⟨w.heap.size,4,none⟩=some _:=R1.out.at' 4 rfl
  have k5:w1.cell? ⟨w.heap.size,5,none⟩=some _:=R1.out.at' 5 rfl
  have k6:w1.cell? ⟨w.heap.size,6,none⟩=some _:=R1.out.at' 6 rfl
  have k7:w1.cell? ⟨w.heap.size,7,none⟩=some _:=R1.out.at' 7 rfl
  go_wp2
  clear k0 k1 k2 k3 k4 k5 k6 k7
  go_loopw [9,11,12,13,35] (fun s9 _ _ _ s35 wr=>∃(i:Nat) (ts:List TreeH),i≤gs.length∧s35=.int .i64 i∧Hid (ts.length=i)∧Hid (Below w1.heap.size w1 wr)∧Hid (ts.map (·.1)=(gs.take i).map gtree)∧Hid (RowT w1.heap.size s9 wr ts)) (fun _ _ _ _ s35 _=>gs.length - (intOf s35).toNat)
  case atStart=>exact⟨0,[],Nat.zero_le _,rfl,Lib.hid rfl,Lib.hid (Below.refl _ _),Lib.hid rfl,RowT.nil _ _⟩
  case round=>
   obtain⟨i,ts,hi,rfl,hti,HB,HM,HT⟩:=hrel
   obtain⟨A2,c2,rfl⟩:=own_form HT.out.1
   have hszr:=HB.out.size
   by_cases hlt:i < gs.length
   ·obtain⟨g,hg⟩:∃g,gs[i]? = some g:=⟨_,List.getElem?_eq_getElem hlt⟩
    have hgm:g∈gs:=List.mem_of_getElem? hg
    have HTK:Hid ((gs.take (i+1)).map gtree=(gs.take i).map gtree++[gtree g]):=Lib.hid (by rw [List.take_add_one,hg];simp)
    obtain⟨b,off,rfl,hb,hcc⟩:=HR1.out (by omega)
    have e0:=(HB.out.cell (p:=⟨b,off+i,none⟩) hb).trans (hcc i g hg)
    have HG1:=Lib.hid (HGT.out g hgm)
    rw [(HGP.out g hgm).1,(HGP.out g hgm).2] at HG1
    clear hcc hg
    go_wp2_with fail
    refine(HG.out _).mono ?_
    rintro e w3 ⟨A3,c3,rfl,-,-,hb3⟩
    obtain⟨W4,hW4,hR4,hX4⟩:=txt_load w3 g
    have B4:=Lib.hid ((HB.out.trans (hb3.mono hszr)).trans (hX4.mono (Nat.le_trans hszr hb3.size)))
    have T4:=Lib.hid ((HT.out.ext hb3).ext hX4)
    have HP:=Lib.hid (HG1.out A3 c3 (some ⟨w3.heap.size+1,0,none⟩) W4 hR4)
    have HW4:=Lib.hid hW4
    clear hW4 hR4 hX4 hb3 HG1 e0
    go_wp2_with fail
    rw [←HW4.out]
    refine HP.out.mono ?_
    rintro e w5 ⟨A5,c5,rfl,hl5,hn5,hb5⟩
    have HTG:Hid (0 < (gtree g).length):=Lib.hid (by rw [gtree_two];omega)
    generalize gtree g=G at *
    have B5:=Lib.hid (B4.out.trans (hb5.mono B4.out.size))
    have T5:=Lib.hid (T4.out.ext hb5)
    have hs5:=B5.out.size
    have hs4:=B4.out.size
    have HNX:Hid (NewVX w1.heap.size (.slice A2 ts.length c2) (w5.alloc (.cells #[.slice A5 G.length c5] 30)) A5 c5 G):=Lib.hid ((NewVX.of hn5 HTG.out hs4 (fun g hg=>(T4.out.1.lt g hg).2)).ext ((Below.refl _ _).alloc (Nat.le_refl _) _))
    have HTA:=Lib.hid (T5.out.ext ((Below.refl _ _).alloc (Nat.le_refl _) (.cells #[.slice A5 G.length c5] 30)))
    have HRN:Hid (Rd (w5.alloc (.cells #[.slice A5 G.length c5] 30)) (w5.heap.size+1) 1 (some ⟨w5.heap.size,0,none⟩) 1 (cellsT [(G,A5,c5)])):=Rd.new w5 30 #[.slice A5 G.length c5] (s:=1) (n:=1) rfl
    have HL5:=Lib.hid hl5
    clear hb5 hn5 hl5 HW4 HP
    go_wp2_with (at_builtin;refine app_trees rfl _ _ rfl w1.heap.size _ ts.length ts rfl HTA.out.1 _ _ _ _ [(G,A5,c5)] rfl HRN.out (by have:=hti.out;omega) (by simp;omega) ?_)
    intro v6 w6 hown6 hg6 hbk
    have T6:=Lib.hid (RowT.app HTA.out ⟨HTG.out,HL5.out,HNX.out⟩ hown6 hg6 (by simpa using hbk))
    have B6:Hid (Below w1.heap.size w1 w6):=(B5.out.alloc B5.out.size _).grown hg6 (by have:=B5.out.size;simp;omega) (fun q hq=>(HT.out.1.lt q hq).1)
    clear hown6 hg6 hbk
    go_wp2
    go_roundw
    case rel=>exact⟨i+1,ts++[(G,A5,c5)],by omega,by go_num,Lib.hid (by rw [List.length_append,hti.out];rfl),B6,Lib.hid (by rw [HTK.out,List.map_append,HM.out];rfl),T6⟩
    case measure=>simp [intOf];omega
   ·obtain rfl:i=gs.length:=by omega
    have XR:=Lib.hid (X1.out.trans (HB.out.mono X1.out.size))
    have Rr:=Lib.hid (R1.out.ext HB.out)
    have RW:Hid (RdW wr wr.heap.size A2 (gs.map gtree)):=Lib.hid (by have h:=HT.out.rdw rfl;rw [HM.out,List.take_length] at h;exact h)
    have htl:=hti.out
    obtain⟨W7,hW7⟩:∃W7,W7=wr.alloc (.cells #[.string (⟨#[106,105,100]⟩:ByteArray),.string xj,.string (⟨#[110,97,109,101]⟩:ByteArray),.string xn,.string (⟨#[115,117,98,115,99,114,105,112,116,105,111,110]⟩:ByteArray),.string ws,.string (⟨#[97,115,107]⟩:ByteArray),.string ask] 9):=⟨_,rfl⟩
    have hX7:Below wr.heap.size wr W7:=by rw [hW7];exact(Below.refl _ _).alloc (Nat.le_refl _) _
    have HE7:=Lib.hid (HE.out (some ⟨wr.heap.size,0,none⟩) W7 (by rw [hW7];exact RdS.new wr 9 [(⟨#[106,105,100]⟩:ByteArray),xj,(⟨#[110,97,109,101]⟩:ByteArray),xn,(⟨#[115,117,98,115,99,114,105,112,116,105,111,110]⟩:ByteArray),ws,(⟨#[97,115,107]⟩:ByteArray),ask]))
    have X7:=Lib.hid (XR.out.trans (hX7.mono XR.out.size))
    have RW7:=Lib.hid (RdW.ext RW.out hX7)
    rw [HAK.out] at hW7
    have HW7:=Lib.hid hW7
    clear hW7 hX7 HE RW
    rw [htl]
    have k0:wr.cell? ⟨w.heap.size,0,none⟩=some _:=Rr.out.at' 0 rfl
    have k1:wr.cell? ⟨w.heap.size,1,none⟩=some _:=Rr.out.at' 1 rfl
    have k2:wr.cell? ⟨w.heap.size,2,none⟩=some _:=Rr.out.at' 2 rfl
    have k3:wr.cell? ⟨w.heap.size,3,none⟩=some _:=Rr.out.at' 3 rfl
    have k4:wr.cell? ⟨w.heap.size,4,none⟩=some _:=Rr.out.at' 4 rfl
    have k5:wr.cell? ⟨w.heap.size,5,none⟩=some _:=Rr.out.at' 5 rfl
    have k6:wr.cell? ⟨w.heap.size,6,none⟩=some _:=Rr.out.at' 6 rfl
    have k7:wr.cell? ⟨w.heap.size,7,none⟩=some _:=Rr.out.at' 7 rfl
    go_wp2_with fail
    rw [←HW7.out]
    refine HE7.out.mono ?_
    rintro e w8 ⟨A8,c8,rfl,hl8,hn8,hb8⟩
    have X8:=Lib.hid (X7.out.trans (hb8.mono X7.out.size))
    have HP:=Lib.hid (HPI.out A2 c2 A8 c8 w8 hn8.rda hl8 (RdW.ext RW7.out hb8))
    clear hl8 hn8 hb8 HE7 HW7 k0 k1 k2 k3 k4 k5 k6 k7
    go_wp2_with fail
    refine HP.out.mono ?_
    rintro e w9 ⟨A9,c9,rfl,hl9,hn9,hb9⟩
    have HN9:=Lib.hid (hn9.mono X8.out.size)
    have X9:=Lib.hid (X8.out.trans (hb9.mono X8.out.size))
    have HL9:=Lib.hid hl9
    clear hl9 hn9 hb9 HP
    go_wp2
    go_ret
    exact⟨A9,c9,rfl,HL9.out,HN9.out,X9.out⟩
theorem sitem_any (x:ItemL) (gone:Bool) (A:Option Addr) (c:Nat) (w:World) (hz:SzI x) (hr:RdS w A x.groups) (hc:x.groups.length≤c) (hi:itemI x=true) :
  Calls Tryz.prog 45 #[encT x A c,.bool gone] w (TwinPost (itemT gone x) w):=by
 cases gone
 ·exact sitem_here x A c w hz hr hc hi
 ·exact sitem_gone x A c w
end Go.Proofs.YtnfokaecobddkaaGreatDoor
end
section
namespace Go.Proofs.YtnfokaecobddkaaGreatDoor
open Go.RowKit
set_option linter.unusedSimpArgs false
set_option linter.unusedVariables false
theorem dec_dig:∀(f n:Nat),n < 10 ^ (f+1)→(Lib.decDigits n)=(digF f n).map (fun x=>UInt8.ofNat x.toNat)
 | 0,n,h=>by
  have h10:n < 10:=by simpa using h
  rw [Lib.decDigits_one h10]
  unfold digF
  rw [List.map_singleton,show(48+(n:Int) % 10).toNat=48+n by omega]
 | f+1,n,h=>by
  unfold digF
  split
  ·rename_i h9
   rw [Lib.decDigits_one (by omega),List.map_singleton,show(48+(n:Int)).toNat=48+n by omega]
  ·rename_i h9
   rw [Lib.decDigits,dif_neg (by omega),List.map_append,List.map_singleton,dec_dig f (n / 10) (by rw [Nat.pow_succ] at h;omega),show(48+(n:Int) % 10).toNat=48+n % 10 by omega]
theorem itoa_dig {n:Nat} (h:n≤9007199254740991):(⟨(Lib.itoa (n:Int)).toArray⟩:ByteArray)=digS n:=by
 have h1:Lib.itoa (n:Int)=Lib.decDigits n:=by
  unfold Lib.itoa
  rw [if_neg (by omega)]
  rfl
 unfold digS
 apply ba_ext
 rw [strOfNums_data,h1,dec_dig 19 n (by omega)]
def numW (n:Int):ByteArray:=if decide (0≤n∧n≤9007199254740991) then digS n.toNat else⟨#[]⟩
def numWE (n:Int):Int:=if decide (0≤n∧n≤9007199254740991) then 0 else 2
set_option maxHeartbeats 4000000 in
set_option maxRecDepth 10000 in
theorem nwrite_any (n:Int) (w:World) (hp:Pow w):Calls Tryz.prog 44 #[.int .i64 n] w fun e w'=>e=.returned (.tuple #[.string (numW n),.int .i64 (numWE n)])∧Below w.heap.size w w':=by
 have HF:=Lib.hid (fun(a b:Int) (ha:a=0) (hb:b=9007199254740991)=>from_any n a b w)
 have HW:Box (numW n=if decide (0≤n∧n≤9007199254740991) then digS n.toNat else⟨#[]⟩):=⟨rfl⟩
 have HE:Box (numWE n=if decide (0≤n∧n≤9007199254740991) then 0 else 2):=⟨rfl⟩
 generalize numW n=r at *
 generalize numWE n=q at *
 by_cases h:0≤n∧n≤9007199254740991
 ·have hd:decide (0≤n∧n≤9007199254740991)=true:=decide_eq_true h
  obtain⟨m,rfl⟩:∃m:Nat,n=(m:Int):=⟨n.toNat,by omega⟩
  have hm:m≤9007199254740991:=by omega
  have hr:=HW.out
  have hq:=HE.out
  rw [hd] at hr hq
  simp only [if_true,Int.toNat_natCast] at hr hq
  subst hr hq
  have HI:=Lib.hid (itoa_any m w hm hp)
  rw [itoa_dig hm] at HI
  have HD:=Lib.hid hd
  clear HW HE h hd hm hp
  generalize digS m=s at *
  go_enter Tryz.func44,Tryz.ntmps44
  go_wp2_with fail
  refine(HF.out _ _ rfl rfl).mono ?_
  rintro e w1 ⟨rfl,rfl⟩
  rw [HD.out]
  go_wp2_with fail
  refine HI.out.mono ?_
  rintro e w1 ⟨rfl,hb⟩
  go_wp2
  go_ret2
  exact⟨rfl,hb⟩
 ·have hd:decide (0≤n∧n≤9007199254740991)=false:=decide_eq_false h
  have hr:=HW.out
  have hq:=HE.out
  rw [hd] at hr hq
  simp only [Bool.false_eq_true,if_false] at hr hq
  subst hr hq
  have HD:=Lib.hid hd
  clear HW HE h hd hp
  go_enter Tryz.func44,Tryz.ntmps44
  go_wp2_with fail
  refine(HF.out _ _ rfl rfl).mono ?_
  rintro e w1 ⟨rfl,rfl⟩
  rw [HD.out]
  go_wp2
  go_ret2
  exact⟨rfl,Below.refl _ _⟩
end Go.Proofs.YtnfokaecobddkaaGreatDoor
end
section
namespace Go.Proofs.YtnfokaecobddkaaGreatDoor
open Go.RowKit
set_option linter.unusedSimpArgs false
set_option linter.unusedVariables false
section
variable {ops:Array Oper} {w0:World} {Fin:List Ty→Prop} {rest:List Oper} {E:Env} {Ts:List Ty} {o:Oper}
end
theorem digS_sz (n:Nat):(digS n).size≤20:=by
 unfold digS
 rw [str_size]
 exact digF_len 19 n
theorem queryN_sz (ver:Int):SzN 1000000000 (queryN ver):=by
 have h:=digS_sz ver.toNat
 refine⟨⟨by show(0:Int)≤1;omega,by show(1:Int) < 256;omega⟩,by show(16:Nat)≤_;omega,by show(5:Nat)≤_;omega,⟨by show(1:Nat)≤_;omega,fun a ha=>?_⟩,Nat.zero_le _,by show(_:Int)≤0;omega,by show(0:Int)≤_;omega⟩
 rw [List.mem_singleton.1 ha]
 exact⟨Nat.zero_le _,by show(3:Nat)≤_;omega,by show(digS ver.toNat).size≤_;omega⟩
theorem itemT_szv {x:ItemL} (h:SzI x) (hi:itemI x=true) (gone:Bool):SzV 1000000000 (itemT gone x):=by
 have hl:=(item_tre hi gone).2
 refine⟨by omega,?_⟩
 cases gone
 ·exact joinV_sz (itemN_sz h) (groups_szw h).1 (fun v hv=>((groups_szw h).2 v hv).2)
 ·intro n hn
  rw [List.mem_singleton.1 hn]
  have hl2:(attrsGo x).length≤3:=by
   unfold attrsGo
   have q1:=withA_len [] (⟨#[106,105,100]⟩:ByteArray) x.jid
   have q2:=withA_len (withA [] (⟨#[106,105,100]⟩:ByteArray) x.jid) (⟨#[110,97,109,101]⟩:ByteArray) x.name
   have q3:=withA_len (withA (withA [] (⟨#[106,105,100]⟩:ByteArray) x.jid) (⟨#[110,97,109,101]⟩:ByteArray) x.name) (⟨#[115,117,98,115,99,114,105,112,116,105,111,110]⟩:ByteArray) (⟨#[114,101,109,111,118,101]⟩:ByteArray)
   simp only [List.length_nil] at q1
   omega
  refine⟨⟨by show(0:Int)≤1;omega,by show(1:Int) < 256;omega⟩,by show(16:Nat)≤_;omega,by show(4:Nat)≤_;omega,⟨by show(attrsGo x).length≤_;omega,?_⟩,Nat.zero_le _,by show(_:Int)≤0;omega,by show(0:Int)≤_;omega⟩
  show ∀a∈withA (withA (withA [] (⟨#[106,105,100]⟩:ByteArray) x.jid) (⟨#[110,97,109,101]⟩:ByteArray) x.name) (⟨#[115,117,98,115,99,114,105,112,116,105,111,110]⟩:ByteArray) (⟨#[114,101,109,111,118,101]⟩:ByteArray),SzA 1000000000 a
  exact withA_sz (withA_sz (withA_sz (fun a ha=>by cases ha) (by decide) h.1) (by decide) h.2.1) (by decide) (by decide)
theorem items_szw {l:List ItemL} (h:SzL l) (hi:rosI l=true) (gone:Bool):SzW (l.map (itemT gone)):=by
 refine⟨by rw [List.length_map];have:=h.1;omega,fun v hv=>?_⟩
 obtain⟨x,hx,rfl⟩:=List.mem_map.1 hv
 exact itemT_szv (h.2 x hx) ((rosI_item hi).2 x hx) gone
def RosPost (l:List ItemL) (gone:Bool) (ver:Int) (w:World) (e:Ending) (w':World):Prop:=
 ∃A c,e=.returned (.tuple #[.slice A (rosV l gone ver).length c,.int .i64 (rosE l gone ver)])∧(rosV l gone ver).length≤c∧NewV w.heap.size w' A c (rosV l gone ver)∧Below w.heap.size w w'
theorem ros_bad {l:List ItemL} {gone:Bool} {ver:Int} (h:(decide (0≤ver∧ver≤9007199254740991) && rosI l && !(gone && !decide (l.length=1)))=false):rosV l gone ver=[]∧rosE l gone ver=2:=by
 have h2:rosE l gone ver=2:=by unfold rosE;rw [h];rfl
 exact⟨by unfold rosV;rw [h2];rfl,h2⟩
theorem ros_ok {l:List ItemL} {gone:Bool} {ver:Int} (h:(decide (0≤ver∧ver≤9007199254740991) && rosI l && !(gone && !decide (l.length=1)))=true):rosV l gone ver=queryV l gone ver∧rosE l gone ver=0:=by
 have h2:rosE l gone ver=0:=by unfold rosE;rw [h];rfl
 exact⟨by unfold rosV;rw [h2];rfl,h2⟩
theorem ros_no {l:List ItemL} {gone:Bool} {ver:Int} {w w':World} (h:(decide (0≤ver∧ver≤9007199254740991) && rosI l && !(gone && !decide (l.length=1)))=false) (hb:Below w.heap.size w w'):RosPost l gone ver w (.returned (.tuple #[.slice none 0 0,.int .i64 2])) w':=by
 unfold RosPost
 rw [(ros_bad h).1,(ros_bad h).2]
 exact⟨none,0,rfl,Nat.le_refl _,NewV.nil _ _,hb⟩
theorem pairs_query (v:ByteArray):pairsT [(⟨#[118,101,114]⟩:ByteArray),v] (([(⟨#[118,101,114]⟩:ByteArray),v]:List ByteArray).length / 2)=withA [] (⟨#[118,101,114]⟩:ByteArray) v:=by
 dsimp only [List.length_cons,List.length_nil];rfl
theorem digF_pos:∀(f n:Nat),0 < (digF f n).length
 | 0,n=>by unfold digF;simp
 | f+1,n=>by
  unfold digF
  split <;> simp
theorem digS_full (n:Nat):isEmp (digS n)=false:=by
 have h:=digF_pos 19 n
 unfold isEmp digS
 rw [str_size]
 exact decide_eq_false (by omega)
theorem query_at (ver:Int):mkN rosN (⟨#[113,117,101,114,121]⟩:ByteArray) (withA [] (⟨#[118,101,114]⟩:ByteArray) (digS ver.toNat))=queryN ver:=by
 unfold mkN queryN withA
 rw [digS_full]
 rfl
end Go.Proofs.YtnfokaecobddkaaGreatDoor
end
section
namespace Go.Proofs.YtnfokaecobddkaaGreatDoor
open Go.RowKit
set_option linter.unusedSimpArgs false
set_option linter.unusedVariables false
set_option maxHeartbeats 16000000 in
set_option maxRecDepth 10000 in
theorem sroster_any (l:List ItemL) (gone:Bool) (ver:Int) (A:Option Addr) (c:Nat) (w:World) (hz:SzL l) (hr:RdI w A l) (hc:l.length≤c) (hg:Glb w) (hp:Pow w) :
  Calls Tryz.prog 17 #[.slice A l.length c,.bool gone,.int .i64 ver] w (RosPost l gone ver w):=by
 have HWR:=Lib.hid (nwrite_any ver w hp)
 unfold numW numWE at HWR
 have HRC:=Lib.hid (fun W (hW:Below w.heap.size w W)=>rcheck_any l A c W hz (hr.ext hW) hc (hg.below hW))
 unfold rosErr at HRC
 have EC:=Lib.hid (enters_of (P:=Tryz.prog) Tryz.func16 (by kernel_rfl) rfl)
 have HNO:=Lib.hid (fun w'=>@ros_no l gone ver w w')
 have HOK:=Lib.hid (@ros_ok l gone ver)
 have HII:=Lib.hid (@rosI_item l)
 have HSI:=Lib.hid (fun(h:rosI l=true)=>items_szw hz h gone)
 have HQP:=Lib.hid (@query_put l gone ver)
 have HZ:=Lib.hid hz
 have HR:=Lib.hid hr
 have hln:=hz.1
 clear hz hr hg hp
 cases hv:decide (0≤ver∧ver≤9007199254740991)
 ·rw [hv] at HWR HNO
  simp only [Bool.false_eq_true,if_false,Bool.false_and] at HWR HNO
  clear hv
  generalize rosI l=q at *
  go_enter Tryz.func17,Tryz.ntmps17
  go_wp2_with fail
  refine HWR.out.mono ?_
  rintro e w1 ⟨rfl,hb1⟩
  have X1:=Lib.hid hb1
  clear hb1
  go_wp2
  go_ret2
  exact HNO.out _ trivial X1.out
 ·rw [hv] at HWR HNO HOK
  simp only [if_true,Bool.true_and] at HWR HNO HOK
  clear hv
  cases hq:rosI l
  ·rw [hq] at HRC HNO
   simp only [Bool.false_eq_true,if_false,Bool.false_and] at HRC HNO
   clear hq
   go_enter Tryz.func17,Tryz.ntmps17
   go_wp2_with fail
   refine HWR.out.mono ?_
   rintro e w1 ⟨rfl,hb1⟩
   have X1:=Lib.hid hb1
   clear hb1
   go_wp2_with fail
   refine(HRC.out _ X1.out).mono ?_
   rintro e w2 ⟨rfl,hb2⟩
   have X2:=Lib.hid (X1.out.trans (hb2.mono X1.out.size))
   clear hb2
   go_wp2
   go_ret2
   exact HNO.out _ trivial X2.out
  ·have HI1:=Lib.hid (HII.out hq)
   have HS1:=Lib.hid (HSI.out hq)
   have HQ1:=Lib.hid (HQP.out hq)
   have h16:=HI1.out.1
   rw [hq] at HRC HNO HOK
   simp only [if_true,Bool.true_and] at HRC HNO HOK
   clear hq HII HSI HQP
   have HFIN:Hid (gone=true→l.length≠1→∀w',Below w.heap.size w w'→RosPost l gone ver w (.returned (.tuple #[.slice none 0 0,.int .i64 2])) w'):=Lib.hid (fun h1 h2 w' hb=>HNO.out w' (by rw [h1,decide_eq_false h2];rfl) hb)
   by_cases hbad:gone=true∧l.length≠1
   ·obtain⟨rfl,h1⟩:=hbad
    have h1i:((l.length:Int) == 1)=false:=by simp;omega
    have h1j:((l.length:Int) != 1)=true:=by simp;omega
    go_enter Tryz.func17,Tryz.ntmps17
    go_wp2_with fail
    refine HWR.out.mono ?_
    rintro e w1 ⟨rfl,hb1⟩
    have X1:=Lib.hid hb1
    clear hb1
    go_wp2_with fail
    refine(HRC.out _ X1.out).mono ?_
    rintro e w2 ⟨rfl,hb2⟩
    have X2:=Lib.hid (X1.out.trans (hb2.mono X1.out.size))
    clear hb2
    go_wp2
    go_ret2
    exact HFIN.out (by first|trivial|rfl) h1 _ X2.out
   ·have HOK2:=Lib.hid (HOK.out (by
     cases gone
     ·rfl
     ·have:l.length=1:=by
       rcases Nat.decEq l.length 1 with h|h
       ·exact absurd ⟨rfl,h⟩ hbad
       ·exact h
      rw [decide_eq_true this];rfl))
    have hg1:gone=true→l.length=1:=fun hg=>by
     rcases Nat.decEq l.length 1 with h|h
     ·exact absurd ⟨hg,h⟩ hbad
     ·exact h
    have h1i:gone=false∨((l.length:Int) != 1)=false:=by
     cases gone
     ·exact .inl rfl
     ·exact .inr (by rw [hg1 rfl];rfl)
    clear hbad HNO HOK HFIN hg1
    have HIT2:=Lib.hid (fun(x:ItemL) (hx:x∈l) (B:Option Addr) (cb:Nat) (W:World) (h1:RdS W B x.groups) (h2:x.groups.length≤cb)=>sitem_any x gone B cb W (HZ.out.2 x hx) h1 h2 (HI1.out.2 x hx))
    have HPL2:=Lib.hid (fun(x:ItemL) (hx:x∈l)=>(show 0 < (itemT gone x).length by
     obtain⟨q1,q2,q3,q4,q5⟩:=(item_tre (HI1.out.2 x hx) gone).1
     rw [q4]
     exact Nat.succ_pos _))
    generalize itemT gone=tt at *
    cases gone
    all_goals
     try replace h1i:=h1i.resolve_left (by decide)
     go_enter Tryz.func17,Tryz.ntmps17
     go_wp2_with fail
     refine HWR.out.mono ?_
     rintro e w1 ⟨rfl,hb1⟩
     have X1:=Lib.hid hb1
     clear hb1
     go_wp2_with fail
     refine(HRC.out _ X1.out).mono ?_
     rintro e w2 ⟨rfl,hb2⟩
     have X2:=Lib.hid (X1.out.trans (hb2.mono X1.out.size))
     have R2:=Lib.hid (HR.out.ext X2.out)
     clear hb2 HRC HWR HR
     go_wp2
     clear h1i
     go_loopw [10,12,36] (fun s10 _ s36 wr=>∃(k:Nat) (ts:List TreeH),k≤l.length∧s36=.int .i64 k∧Hid (ts.length=k)∧Hid (Below w2.heap.size w2 wr)∧Hid (ts.map (·.1)=(l.take k).map tt)∧Hid (RowT w2.heap.size s10 wr ts)) (fun _ _ s36 _=>l.length - (intOf s36).toNat)
     case atStart=>exact⟨0,[],Nat.zero_le _,rfl,Lib.hid rfl,Lib.hid (Below.refl _ _),Lib.hid rfl,RowT.nil _ _⟩
     case round=>
      obtain⟨k,ts,hk,rfl,htk,HB,HM,HT⟩:=hrel
      obtain⟨A2,c2,rfl⟩:=own_form HT.out.1
      have hszr:=HB.out.size
      by_cases hlt:k < l.length
      ·obtain⟨x,hx⟩:∃x,l[k]? = some x:=⟨_,List.getElem?_eq_getElem hlt⟩
       have hxm:x∈l:=List.mem_of_getElem? hx
       have HTK:Hid ((l.take (k+1)).map tt=(l.take k).map tt++[tt x]):=Lib.hid (by rw [List.take_add_one,hx];simp)
       obtain⟨b,off,rfl,hb,hcc⟩:=(R2.out.ext HB.out) (by omega)
       obtain⟨A',c',hcell,hl',hA'⟩:=hcc k x hx
       have d0:=hcell 0 _ rfl
       have d1:=hcell 1 _ rfl
       have d2:=hcell 2 _ rfl
       have d3:=hcell 3 _ rfl
       have d4:=hcell 4 _ rfl
       have d5:=hcell 5 _ rfl
       have d6:=hcell 6 _ rfl
       have d7:=hcell 7 _ rfl
       rw [Nat.add_zero] at d0
       dsimp only [cI] at d0 d1 d2 d3 d4 d5 d6 d7
       obtain⟨W3,hW3⟩:∃W3,W3=wr.alloc (.cells (cI x A' c') 48):=⟨_,rfl⟩
       have hX3:Below wr.heap.size wr W3:=by rw [hW3];exact(Below.refl _ _).alloc (Nat.le_refl _) _
       have I3:Hid (Row W3 wr.heap.size (cI x A' c')):=Lib.hid (by rw [hW3];exact Row.new wr _ _)
       have B3:=Lib.hid (HB.out.trans (hX3.mono HB.out.size))
       have T3:=Lib.hid (HT.out.ext hX3)
       have HIT:=Lib.hid (HIT2.out x hxm A' c' W3 (RdS.ext hA' hX3) hl')
       have HPL:Hid (0 < (tt x).length):=Lib.hid (HPL2.out x hxm)
       unfold encT TwinPost at HIT
       unfold cI at hW3 HIT I3
       clear hcell hcc hA' hx hX3
       generalize tt x=G at *
       go_upto_region 8 with fail
       rw [←hW3]
       clear hW3 d0 d1 d2 d3 d4 d5 d6 d7
       have k0:W3.cell? ⟨wr.heap.size,0,none⟩=some _:=I3.out.at' 0 rfl
       have k1:W3.cell? ⟨wr.heap.size,1,none⟩=some _:=I3.out.at' 1 rfl
       have k2:W3.cell? ⟨wr.heap.size,2,none⟩=some _:=I3.out.at' 2 rfl
       have k3:W3.cell? ⟨wr.heap.size,3,none⟩=some _:=I3.out.at' 3 rfl
       have k4:W3.cell? ⟨wr.heap.size,4,none⟩=some _:=I3.out.at' 4 rfl
       have k5:W3.cell? ⟨wr.heap.size,5,none⟩=some _:=I3.out.at' 5 rfl
       have k6:W3.cell? ⟨wr.heap.size,6,none⟩=some _:=I3.out.at' 6 rfl
       have k7:W3.cell? ⟨wr.heap.size,7,none⟩=some _:=I3.out.at' 7 rfl
       go_wp2_with fail
       refine HIT.out.mono ?_
       rintro e w5 ⟨A5,c5,rfl,hl5,hn5,hb5⟩
       have B5:=Lib.hid (B3.out.trans (hb5.mono B3.out.size))
       have T5:=Lib.hid (T3.out.ext hb5)
       have hs5:=B5.out.size
       have hs3:=B3.out.size
       have HNX:Hid (NewVX w2.heap.size (.slice A2 ts.length c2) (w5.alloc (.cells #[.slice A5 G.length c5] 30)) A5 c5 G):=Lib.hid ((NewVX.of hn5 HPL.out hs3 (fun g hg=>(T3.out.1.lt g hg).2)).ext ((Below.refl _ _).alloc (Nat.le_refl _) _))
       have HTA:=Lib.hid (T5.out.ext ((Below.refl _ _).alloc (Nat.le_refl _) (.cells #[.slice A5 G.length c5] 30)))
       have HRN:Hid (Rd (w5.alloc (.cells #[.slice A5 G.length c5] 30)) (w5.heap.size+1) 1 (some ⟨w5.heap.size,0,none⟩) 1 (cellsT [(G,A5,c5)])):=Rd.new w5 30 #[.slice A5 G.length c5] (s:=1) (n:=1) rfl
       have HL5:=Lib.hid hl5
       clear hb5 hn5 hl5 HIT k0 k1 k2 k3 k4 k5 k6 k7
       go_wp2_with (at_builtin;refine app_trees rfl _ _ rfl w2.heap.size _ ts.length ts rfl HTA.out.1 _ _ _ _ [(G,A5,c5)] rfl HRN.out (by have:=htk.out;omega) (by simp;omega) ?_)
       intro v6 w6 hown6 hg6 hbk
       have T6:=Lib.hid (RowT.app HTA.out ⟨HPL.out,HL5.out,HNX.out⟩ hown6 hg6 (by simpa using hbk))
       have B6:Hid (Below w2.heap.size w2 w6):=(B5.out.alloc B5.out.size _).grown hg6 (by have:=B5.out.size;simp;omega) (fun q hq=>(HT.out.1.lt q hq).1)
       clear hown6 hg6 hbk
       go_wp2
       go_roundw
       case rel=>exact⟨k+1,ts++[(G,A5,c5)],by omega,by go_num,Lib.hid (by rw [List.length_append,htk.out];rfl),B6,Lib.hid (by rw [HTK.out,List.map_append,HM.out];rfl),T6⟩
       case measure=>simp [intOf];omega
      ·obtain rfl:k=l.length:=by omega
       have XR:=Lib.hid (X2.out.trans (HB.out.mono X2.out.size))
       have RW:Hid (RdW wr wr.heap.size A2 (l.map tt)):=Lib.hid (by have h:=HT.out.rdw rfl;rw [HM.out,List.take_length] at h;exact h)
       have htl:=htk.out
       obtain⟨W7,hW7⟩:∃W7,W7=wr.alloc (.cells #[.string (⟨#[118,101,114]⟩:ByteArray),.string (digS ver.toNat)] 9):=⟨_,rfl⟩
       have hX7:Below wr.heap.size wr W7:=by rw [hW7];exact(Below.refl _ _).alloc (Nat.le_refl _) _
       have HE7:=Lib.hid (elem_any rosN (⟨#[113,117,101,114,121]⟩:ByteArray) [(⟨#[118,101,114]⟩:ByteArray),digS ver.toNat] (some ⟨wr.heap.size,0,none⟩) 2 W7 (by rw [hW7];exact RdS.new wr 9 [(⟨#[118,101,114]⟩:ByteArray),digS ver.toNat]) (by simp))
       rw [pairs_query] at HE7
       unfold ElemE at HE7
       rw [query_at] at HE7
       have HQA:Hid (withA [] (⟨#[118,101,114]⟩:ByteArray) (digS ver.toNat)=(queryN ver).attrs):=Lib.hid (by rw [←query_at];rfl)
       rw [HQA.out] at HE7
       have X7:=Lib.hid (XR.out.trans (hX7.mono XR.out.size))
       have RW7:=Lib.hid (RdW.ext RW.out hX7)
       have HW7:=Lib.hid hW7
       have HQS:=Lib.hid (queryN_sz ver)
       clear hW7 hX7 RW HQA
       unfold rosN at HE7
       dsimp only [List.length_cons,List.length_nil] at HE7
       rw [htl]
       generalize digS ver.toNat=dv at *
       generalize queryN ver=qn at *
       go_wp2_with fail
       rw [←HW7.out]
       refine HE7.out.mono ?_
       rintro e w8 ⟨A8,c8,rfl,hl8,hn8,hb8⟩
       have X8:=Lib.hid (X7.out.trans (hb8.mono X7.out.size))
       have HP:=Lib.hid (put_node qn A8 c8 (l.map tt) A2 c2 w8 HQS.out hn8.rda hl8 HS1.out (RdW.ext RW7.out hb8))
       unfold PutPost at HP
       rw [HQ1.out.1,HQ1.out.2,List.length_map] at HP
       clear hl8 hn8 hb8 HE7 HW7
       unfold encN at HP ⊢
       go_wp2_with fail
       refine HP.out.mono ?_
       rintro e w9 ⟨A9,c9,rfl,hl9,hn9,hb9⟩
       have HN9:=Lib.hid (hn9.mono X8.out.size)
       have X9:=Lib.hid (X8.out.trans (hb9.mono X8.out.size))
       have HL9:=Lib.hid hl9
       clear hl9 hn9 hb9 HP
       go_wp2
       go_ret2
       unfold RosPost
       rw [HOK2.out.1,HOK2.out.2]
       exact⟨A9,c9,rfl,HL9.out,HN9.out,X9.out⟩
end Go.Proofs.YtnfokaecobddkaaGreatDoor
end
section
namespace Go.Proofs.YtnfokaecobddkaaGreatDoor
open Go.RowKit
set_option linter.unusedSimpArgs false
set_option linter.unusedVariables false
def SzK (x:ItemL):Prop:=x.jid.size≤500∧x.name.size≤500∧x.groups.length≤10∧∀g∈x.groups,g.size≤500
def SzM (l:List ItemL):Prop:=l.length≤18∧∀x∈l,SzK x
def GreatK (l:List ItemL) (w:World) (e:Ending) (w':World):Prop:=∃g,e=.returned (.bool g)∧Below w.heap.size w w'∧(g=false→SzM l)
theorem SzM.szl {l:List ItemL} (h:SzM l):SzL l:=⟨by have:=h.1;omega,fun x hx=>by
 obtain⟨h1,h2,h3,h4⟩:=h.2 x hx
 exact⟨by omega,by omega,by omega,fun g hg=>by have:=h4 g hg;omega⟩⟩
set_option maxHeartbeats 16000000 in
set_option maxRecDepth 10000 in
theorem refgreat21_any (l:List ItemL) (v:Int) (A:Option Addr) (c:Nat) (w:World) (hr:RdI w A l) (hc:l.length≤c) :
  Calls Tryz.prog 15 #[.agg #[.slice A l.length c,.int .i64 v]] w (GreatK l w):=by
 obtain⟨W0,hW0⟩:∃W0,W0=w.alloc (.cells #[.slice A l.length c,.int .i64 v] 41):=⟨_,rfl⟩
 have hX0:Below w.heap.size w W0:=by rw [hW0];exact(Below.refl _ _).alloc (Nat.le_refl _) _
 have R0:Hid (Row W0 w.heap.size #[.slice A l.length c,.int .i64 v]):=Lib.hid (by rw [hW0];exact Row.new w _ _)
 have HR:=Lib.hid (hr.ext hX0)
 have X0:=Lib.hid hX0
 clear hX0 hr
 go_enter Tryz.func15,Tryz.ntmps15
 go_upto_region 1 with fail
 rw [←hW0]
 clear hW0
 go_wp2
 go_loopw [3,4,5] (fun s3 _ _ wr=>∃k:Nat,k≤l.length∧k≤20∧s3=.int .i64 k∧Hid (Below W0.heap.size W0 wr)∧Hid (∀(i:Nat) (x:ItemL),i < k→l[i]? = some x→SzK x)) (fun s3 _ _ _=>l.length - (intOf s3).toNat)
 case atStart=>exact⟨0,Nat.zero_le _,Nat.zero_le _,rfl,Lib.hid (Below.refl _ _),Lib.hid (fun i x h=>absurd h (Nat.not_lt_zero _))⟩
 case round=>
  obtain⟨k,hk,hk20,rfl,HB,HS⟩:=hrel
  have XR:=Lib.hid (X0.out.trans (HB.out.mono X0.out.size))
  have Rr:=Lib.hid (R0.out.ext HB.out)
  have k0:wr.cell? ⟨w.heap.size,0,none⟩=some _:=Rr.out.at' 0 rfl
  have k1:wr.cell? ⟨w.heap.size,1,none⟩=some _:=Rr.out.at' 1 rfl
  by_cases hlt:k < l.length
  ·by_cases hlt2:k < 20
   ·obtain⟨x,hx⟩:∃x,l[k]? = some x:=⟨_,List.getElem?_eq_getElem hlt⟩
    have HX:=Lib.hid hx
    obtain⟨b,off,rfl,hb,hcc⟩:=(HR.out.ext HB.out) (by omega)
    obtain⟨A',c',hcell,hl',hA'⟩:=hcc k x hx
    have d0:=hcell 0 _ rfl
    have d1:=hcell 1 _ rfl
    have d2:=hcell 2 _ rfl
    have d3:=hcell 3 _ rfl
    have d4:=hcell 4 _ rfl
    have d5:=hcell 5 _ rfl
    have d6:=hcell 6 _ rfl
    have d7:=hcell 7 _ rfl
    rw [Nat.add_zero] at d0
    dsimp only [cI] at d0 d1 d2 d3 d4 d5 d6 d7
    obtain⟨W3,hW3⟩:∃W3,W3=wr.alloc (.cells (cI x A' c') 48):=⟨_,rfl⟩
    have hX3:Below wr.heap.size wr W3:=by rw [hW3];exact(Below.refl _ _).alloc (Nat.le_refl _) _
    have I3:Hid (Row W3 wr.heap.size (cI x A' c')):=Lib.hid (by rw [hW3];exact Row.new wr _ _)
    have B3:=Lib.hid (HB.out.trans (hX3.mono HB.out.size))
    have X3:=Lib.hid (XR.out.trans (hX3.mono XR.out.size))
    have GA:=Lib.hid (RdS.ext hA' hX3)
    have HS2:=Lib.hid (fun(h:SzK x)=>(show ∀(i:Nat) (y:ItemL),i < k+1→l[i]? = some y→SzK y from fun i y hi hy=>by
     rcases Nat.lt_or_ge i k with h1|h1
     ·exact HS.out i y h1 hy
     ·obtain rfl:i=k:=by omega
      rw [HX.out] at hy
      cases hy
      exact h))
    unfold cI at hW3 I3
    clear hcell hcc hA' hx hX3
    go_upto_region 5 with fail
    rw [←hW3]
    clear hW3 d0 d1 d2 d3 d4 d5 d6 d7 k0 k1
    unfold SzK at HS2
    generalize wr.heap.size=gr at *
    have k0:W3.cell? ⟨gr,0,none⟩=some _:=I3.out.at' 0 rfl
    have k1:W3.cell? ⟨gr,1,none⟩=some _:=I3.out.at' 1 rfl
    have k2:W3.cell? ⟨gr,2,none⟩=some _:=I3.out.at' 2 rfl
    have k3:W3.cell? ⟨gr,3,none⟩=some _:=I3.out.at' 3 rfl
    have k4:W3.cell? ⟨gr,4,none⟩=some _:=I3.out.at' 4 rfl
    have k5:W3.cell? ⟨gr,5,none⟩=some _:=I3.out.at' 5 rfl
    have k6:W3.cell? ⟨gr,6,none⟩=some _:=I3.out.at' 6 rfl
    have k7:W3.cell? ⟨gr,7,none⟩=some _:=I3.out.at' 7 rfl
    by_cases h1:x.jid.size≤500
    ·have h1i:¬((x.jid.size:Int) > 500):=by omega
     by_cases h2:x.name.size≤500
     ·have h2i:¬((x.name.size:Int) > 500):=by omega
      by_cases h3:x.groups.length≤10
      ·have h3i:¬((x.groups.length:Int) > 10):=by omega
       go_wp2
       clear k0 k1 k2 k3 k4 k5 k6 k7
       go_loopw [5] (fun s5 w5=>∃j:Nat,j≤x.groups.length∧s5=.int .i64 j∧Hid (Below W3.heap.size W3 w5)∧Hid (∀(i:Nat) (g:ByteArray),i < j→x.groups[i]? = some g→g.size≤500)) (fun s5 _=>x.groups.length - (intOf s5).toNat)
       case atStart=>exact⟨0,Nat.zero_le _,rfl,Lib.hid (Below.refl _ _),Lib.hid (fun i x h=>absurd h (Nat.not_lt_zero _))⟩
       case round=>
        obtain⟨j,hj,rfl,B5,H5⟩:=hrel
        have I5:=Lib.hid (I3.out.ext B5.out)
        have X5:=Lib.hid (X3.out.trans (B5.out.mono X3.out.size))
        have k0:wr.cell? ⟨gr,0,none⟩=some _:=I5.out.at' 0 rfl
        have k1:wr.cell? ⟨gr,1,none⟩=some _:=I5.out.at' 1 rfl
        have k2:wr.cell? ⟨gr,2,none⟩=some _:=I5.out.at' 2 rfl
        have k3:wr.cell? ⟨gr,3,none⟩=some _:=I5.out.at' 3 rfl
        have k4:wr.cell? ⟨gr,4,none⟩=some _:=I5.out.at' 4 rfl
        have k5:wr.cell? ⟨gr,5,none⟩=some _:=I5.out.at' 5 rfl
        have k6:wr.cell? ⟨gr,6,none⟩=some _:=I5.out.at' 6 rfl
        have k7:wr.cell? ⟨gr,7,none⟩=some _:=I5.out.at' 7 rfl
        by_cases hjl:j < x.groups.length
        ·obtain⟨g,hg⟩:∃g,x.groups[j]? = some g:=⟨_,List.getElem?_eq_getElem hjl⟩
         have HGG:=Lib.hid hg
         obtain⟨b6,off6,rfl,hb6,hc6⟩:=(GA.out.ext B5.out) (by omega)
         have e0:=hc6 j g hg
         clear hc6 hg
         by_cases h6:g.size≤500
         ·have h6i:¬((g.size:Int) > 500):=by omega
          go_wp2
          go_roundw
          case rel=>exact⟨j+1,by omega,by go_num,B5,Lib.hid (fun i y hi hy=>by
           rcases Nat.lt_or_ge i j with h1|h1
           ·exact H5.out i y h1 hy
           ·obtain rfl:i=j:=by omega
            rw [HGG.out] at hy
            cases hy
            exact h6)⟩
          case measure=>simp [intOf];omega
         ·have h6i:((g.size:Int) > 500):=by omega
          go_wp2
          go_ret
          exact⟨true,rfl,X5.out,fun h=>by cases h⟩
        ·obtain rfl:j=x.groups.length:=by omega
         have B55:=Lib.hid (B3.out.trans (B5.out.mono B3.out.size))
         go_wp2
         go_roundw
         case rel=>exact⟨k+1,by omega,by omega,by go_num,B55,Lib.hid (HS2.out ⟨h1,h2,h3,fun g hg=>by
          obtain⟨i,hi,rfl⟩:=List.mem_iff_getElem.1 hg
          exact H5.out i _ hi (List.getElem?_eq_getElem hi)⟩)⟩
         case measure=>simp [intOf];omega
      ·have h3i:((x.groups.length:Int) > 10):=by omega
       go_wp2
       go_ret
       exact⟨true,rfl,X3.out,fun h=>by cases h⟩
     ·have h2i:((x.name.size:Int) > 500):=by omega
      go_wp2
      go_ret
      exact⟨true,rfl,X3.out,fun h=>by cases h⟩
    ·have h1i:((x.jid.size:Int) > 500):=by omega
     go_wp2
     go_ret
     exact⟨true,rfl,X3.out,fun h=>by cases h⟩
   ·have h18:((l.length:Int) > 18):=by omega
    go_wp2
    go_ret
    exact⟨true,rfl,XR.out,fun h=>by cases h⟩
  ·obtain rfl:k=l.length:=by omega
   by_cases h18:l.length≤18
   ·have h18i:¬((l.length:Int) > 18):=by omega
    go_wp2
    go_ret
    exact⟨false,rfl,XR.out,fun _=>⟨h18,fun x hx=>by
     obtain⟨i,hi,rfl⟩:=List.mem_iff_getElem.1 hx
     exact HS.out i _ hi (List.getElem?_eq_getElem hi)⟩⟩
   ·have h18i:((l.length:Int) > 18):=by omega
    go_wp2
    go_ret
    exact⟨true,rfl,XR.out,fun h=>by cases h⟩
end Go.Proofs.YtnfokaecobddkaaGreatDoor
end
