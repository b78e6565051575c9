/- Part 22 of a proof laid in parts, one behind the other; no condition of its own. -/
import Derived.Test.YtnmnpnofdgdigaaGreatDoorZ21
import Derived.Test.YtnmnpnofdgdigaaGreatDoorZ16
import Derived.Test.YtnmnpnofdgdigaaGreatDoorZ17
set_option linter.all false
section
namespace Go.Proofs.YtnmnpnofdgdigaaGreatDoor
open Go.RowKit
set_option linter.unusedSimpArgs false
set_option linter.unusedVariables false
set_option maxHeartbeats 16000000 in
set_option maxRecDepth 10000 in
theorem refrmay_any (l:List ItemL) (A:Option Addr) (c:Nat) (w:World) (hz:SzL l) (hr:RdI w A l) (hc:l.length≤c) :
  Calls Tryz.prog 68 #[.agg #[.slice A l.length c,.int .i64 0]] w fun e w'=>e=.returned (.bool (rosI l))∧Below w.heap.size w w':=by
 obtain⟨W0,hW0⟩:∃W0,W0=w.alloc (.cells #[.slice A l.length c,.int .i64 0] 67):=⟨_,rfl⟩
 have hX0:Below w.heap.size w W0:=by rw [hW0];exact(Below.refl _ _).alloc (Nat.le_refl _) _
 have R0:Hid (Row W0 w.heap.size #[.slice A l.length c,.int .i64 0]):=Lib.hid (by rw [hW0];exact Row.new w _ _)
 have HR:=Lib.hid (hr.ext hX0)
 have X0:=Lib.hid hX0
 have HZ:=Lib.hid hz
 have hln:=hz.1
 have HI:Box (rosI l=(rosT l l.length && decide (l.length≤16))):=⟨rfl⟩
 generalize rosI l=ri at *
 clear hX0 hr hz
 have EI:=Lib.hid (enters_of (P:=Tryz.prog) Tryz.func125 (by kernel_rfl) rfl)
 have EO:=Lib.hid (enters_of (P:=Tryz.prog) Tryz.func126 (by kernel_rfl) rfl)
 go_enter Tryz.func68,Tryz.ntmps68
 go_upto_region 1 with fail
 rw [←hW0]
 clear hW0
 go_wp2
 go_loopw [3] (fun s3 wr=>∃k:Nat,k≤l.length∧s3=.int .i64 k∧Hid (Below W0.heap.size W0 wr)∧Hid (rosT l k=true)) (fun s3 _=>l.length - (intOf s3).toNat)
 case atStart=>exact⟨0,Nat.zero_le _,rfl,Lib.hid (Below.refl _ _),rfl⟩
 case round=>
  obtain⟨k,hk,rfl,HB,HT⟩:=hrel
  have XR:=Lib.hid (X0.out.trans (HB.out.mono X0.out.size))
  have Rr:=Lib.hid (R0.out.ext HB.out)
  have k0:wr.cell? ⟨w.heap.size,0,none⟩=some _:=Rr.out.at' 0 rfl
  have k1:wr.cell? ⟨w.heap.size,1,none⟩=some _:=Rr.out.at' 1 rfl
  by_cases hlt:k < l.length
  ·obtain⟨x,hx⟩:∃x,l[k]? = some x:=⟨_,List.getElem?_eq_getElem hlt⟩
   obtain⟨b,off,rfl,hb,hcc⟩:=(HR.out.ext HB.out) (by omega)
   have HCC:=Lib.hid hcc
   obtain⟨A',c',hcell,hl',hA'⟩:=hcc k x hx
   have d0:=hcell 0 _ rfl
   rw [Nat.add_zero] at d0
   dsimp only [cI] at d0
   have HZX:=Lib.hid (HZ.out.2 x (List.mem_of_getElem? hx))
   have FI:=Lib.hid (fun W (hW:Ext wr.drew W)=>refritem_any x A' c' W HZX.out (RdS.ext hA' (ext_below hW)) hl')
   have GI:=Lib.hid (fun W (hW:Ext wr.drew W) r v (hv:(cI x A' c')[r]? = some v)=>((ext_below hW).cell (p:=⟨b,off+k*8+r,none⟩) hb).trans (hcell r v hv))
   have GJ:=Lib.hid (fun W (hW:Ext wr.drew W)=>((ext_below hW).cell (p:=⟨b,off+k*8,none⟩) hb).trans d0)
   have GR:=Lib.hid (fun W (hW:Ext wr.drew W)=>(Rr.out.ext (ext_below hW)).at' 0 rfl)
   have HNO:=Lib.hid (rosT_no l (k+1) l.length hlt)
   have HSU:Box (rosT l (k+1)=rowOK l k x):=⟨by rw [rosT_succ l k x hx,HT.out,Bool.true_and]⟩
   clear hcell hcc hA' hx d0
   go_wp2_with fail
   clear k0 k1
   rcases Nat.eq_zero_or_pos k with h0|h0
   ·subst h0
    rw [rowOK_0] at HSU
    generalize itemI x=ix at *
    cases ix
    all_goals
     refine wp_region_typed rfl (by kernel_rfl) (by kernel_rfl) ?_
     repeat (first|refine tw_skip (wd_un rfl rfl rfl) ?_|refine tw_ldL8 rfl rfl GR.out (wdA rfl) ?_|refine tw_ixI hlt (by omega) rfl rfl rfl (wdA rfl) ?_|refine tw_ldIt rfl rfl GI.out (wdA rfl) ?_|refine tw_fnB #[encT x A' c'] _ rfl (fun W=>EI.out _ W) rfl (wdA rfl) FI.out ?_|refine tw_skip (wd_no rfl rfl rfl) ?_|refine tw_mv (.inl rfl) rfl (wdA rfl) ?_|refine tw_mv (.inr rfl) rfl (wdA rfl) ?_|refine tw_pickL rfl rfl rfl (wdA rfl) ?_|refine tw_op1 _ rfl rfl (wdA rfl) (fun ρ W hW h1=>by simp only [execOp,h1];go_simp;first|done|rfl) ?_|refine tw_op2 _ rfl rfl rfl (wdA rfl) (fun ρ W hW h1 h2=>by simp only [execOp,h1,h2];go_simp;first|done|rfl) ?_)
     dsimp only [wpT,List.reverse,List.reverseAux,FinT]
     intro W5 hW5 _
     simp only [Act.put,List.setIfInBounds_toArray,List.set_cons_zero,List.set_cons_succ]
     have X5:=Lib.hid (XR.out.trans ((ext_below hW5).mono XR.out.size))
     have B5:=Lib.hid (HB.out.trans ((ext_below hW5).mono HB.out.size))
     clear hW5
    ·go_wp2
     go_ret
     exact⟨ret_bool (by rw [HI.out,HNO.out HSU.out];rfl),X5.out⟩
    ·go_wp2
     go_roundw
     case rel=>exact⟨0+1,by omega,by go_num,B5,Lib.hid HSU.out⟩
     case measure=>simp [intOf];omega
   ·obtain⟨m,rfl⟩:∃m,k=m+1:=⟨k - 1,by omega⟩
    obtain⟨y,hy⟩:∃y,l[m]? = some y:=⟨_,List.getElem?_eq_getElem (by omega)⟩
    rw [rowOK_s l m x y hy] at HSU
    have hml:m < l.length:=by omega
    obtain⟨Ay,cy,hcy,-,-⟩:=HCC.out m y hy
    have e0:=hcy 0 _ rfl
    rw [Nat.add_zero] at e0
    dsimp only [cI] at e0
    have GY:=Lib.hid (fun W (hW:Ext wr.drew W)=>((ext_below hW).cell (p:=⟨b,off+m*8,none⟩) hb).trans e0)
    have HZY:=Lib.hid (HZ.out.2 y (List.mem_of_getElem? hy))
    have FO:=Lib.hid (fun W (hW:Ext wr.drew W)=>refrless_any y.jid x.jid W HZY.out.1 HZX.out.1)
    generalize lessJ (parsedJ y.jid) (parsedJ x.jid)=lj at *
    generalize itemI x=ix at *
    have hgt:decide ((0:Int) < ((m+1:Nat):Int))=true:=by simp
    clear hcy e0 hy
    cases ix
    ·refine wp_region_typed rfl (by kernel_rfl) (by kernel_rfl) ?_
     repeat (first|refine tw_skip (wd_un rfl rfl rfl) ?_|refine tw_ldL8 rfl rfl GR.out (wdA rfl) ?_|refine tw_ixI hlt (by omega) rfl rfl rfl (wdA rfl) ?_|refine tw_ldIt rfl rfl GI.out (wdA rfl) ?_|refine tw_fnB #[encT x A' c'] _ rfl (fun W=>EI.out _ W) rfl (wdA rfl) FI.out ?_|refine tw_skip (wd_no rfl rfl rfl) ?_|refine tw_mv (.inl rfl) rfl (wdA rfl) ?_|refine tw_mv (.inr rfl) rfl (wdA rfl) ?_|refine tw_pickL rfl rfl rfl (wdA rfl) ?_|refine tw_op1 _ rfl rfl (wdA rfl) (fun ρ W hW h1=>by simp only [execOp,h1];go_simp;first|done|rfl) ?_|refine tw_op2 _ rfl rfl rfl (wdA rfl) (fun ρ W hW h1 h2=>by simp only [execOp,h1,h2];go_simp;first|done|rfl) ?_)
     dsimp only [wpT,List.reverse,List.reverseAux,FinT]
     intro W5 hW5 _
     simp only [Act.put,List.setIfInBounds_toArray,List.set_cons_zero,List.set_cons_succ]
     have X5:=Lib.hid (XR.out.trans ((ext_below hW5).mono XR.out.size))
     clear hW5
     go_wp2
     go_ret
     exact⟨ret_bool (by rw [HI.out,HNO.out HSU.out];rfl),X5.out⟩
    ·cases lj
     all_goals
      refine wp_region_typed rfl (by kernel_rfl) (by kernel_rfl) ?_
      repeat (first|refine tw_ldL8 rfl rfl GR.out (wdA rfl) ?_|refine tw_sub1 (by omega) rfl rfl (wdA rfl) ?_|refine tw_ixI hlt (by omega) rfl rfl rfl (wdA rfl) ?_|refine tw_ixI hml (by omega) rfl rfl rfl (wdA rfl) ?_|refine tw_ldIt rfl rfl GI.out (wdA rfl) ?_|refine tw_fnB #[encT x A' c'] _ rfl (fun W=>EI.out _ W) rfl (wdA rfl) FI.out ?_|refine tw_ldS rfl rfl GJ.out (wdA rfl) ?_|refine tw_ldS rfl rfl GY.out (wdA rfl) ?_|refine tw_fnB #[.string y.jid,.string x.jid] _ rfl (fun W=>EO.out _ W) rfl (wdA rfl) FO.out ?_|refine tw_skip (wd_no rfl rfl rfl) ?_|refine tw_mv (.inl rfl) rfl (wdA rfl) ?_|refine tw_mv (.inr rfl) rfl (wdA rfl) ?_|refine tw_pickL rfl rfl rfl (wdA rfl) ?_|refine tw_op1 _ rfl rfl (wdA rfl) (fun ρ W hW h1=>by simp only [execOp,h1];go_simp;first|done|rfl) ?_|refine tw_op2 _ rfl rfl rfl (wdA rfl) (fun ρ W hW h1 h2=>by simp only [execOp,h1,h2];go_simp;first|done|rfl) ?_)
      dsimp only [wpT,List.reverse,List.reverseAux,FinT]
      intro W5 hW5 _
      simp only [Act.put,List.setIfInBounds_toArray,List.set_cons_zero,List.set_cons_succ]
      have X5:=Lib.hid (XR.out.trans ((ext_below hW5).mono XR.out.size))
      have B5:=Lib.hid (HB.out.trans ((ext_below hW5).mono HB.out.size))
      clear hW5
     ·go_wp2
      go_ret
      exact⟨ret_bool (by rw [HI.out,HNO.out HSU.out];rfl),X5.out⟩
     ·go_wp2
      go_roundw
      case rel=>exact⟨m+1+1,by omega,by go_num,B5,Lib.hid HSU.out⟩
      case measure=>simp [intOf];omega
  ·obtain rfl:k=l.length:=by omega
   have HIw:Box (ri=decide (l.length≤16)):=⟨by rw [HI.out,HT.out,Bool.true_and]⟩
   by_cases h16:l.length≤16
   ·have h16i:((l.length:Int)≤16):=by omega
    rw [decide_eq_true h16] at HIw
    go_wp2
    go_ret
    exact⟨ret_bool (by first|(rw [HIw.out];done)|(rw [HIw.out,decide_eq_true h16i])),XR.out⟩
   ·have h16i:¬((l.length:Int)≤16):=by omega
    rw [decide_eq_false h16] at HIw
    go_wp2
    go_ret
    exact⟨ret_bool (by first|(rw [HIw.out];done)|(rw [HIw.out,decide_eq_false (by omega)])),XR.out⟩
end Go.Proofs.YtnmnpnofdgdigaaGreatDoor
end
section
namespace Go.Proofs.YtnmnpnofdgdigaaGreatDoor
open Go.RowKit
set_option linter.unusedSimpArgs false
set_option linter.unusedVariables false
theorem newv_one {base:Nat} {w:World} {n:NodeL} {A:Option Addr} {c:Nat} (hA:NewA base w.heap.size w A n.attrs) (hc:n.attrs.length≤c) (hb:base≤w.heap.size) :
  NewV base (w.alloc (.cells #[.int .u8 n.kind,.string n.space,.string n.name,.slice A n.attrs.length c,.string n.text,.int .i64 n.many] 36)) (some ⟨w.heap.size,0,none⟩) 1 [n]:=by
 refine⟨[(n,A,c)],rfl,⟨rfl,.inr ⟨w.heap.size,1,_,rfl,hb,heap_alloc_new w _,Nat.le_refl _,by unfold maxLen;omega,rfl,rfl⟩⟩,fun i x hi=>?_⟩
 cases i with
 | succ i=>simp at hi
 | zero=>
  simp only [List.getElem?_cons_zero,Option.some.injEq] at hi
  subst hi
  exact⟨hc,hA.ext ((Below.refl _ _).alloc (Nat.le_refl _) _)⟩
theorem group_sz:SzN 1000000000 (groupN 0):=
 ⟨⟨by show(0:Int)≤1;omega,by show(1:Int) < 256;omega⟩,by show(16:Nat)≤_;omega,by show(5:Nat)≤_;omega,⟨Nat.zero_le _,fun a ha=>by cases ha⟩,Nat.zero_le _,by show(_:Int)≤0;omega,by show(0:Int)≤_;omega⟩
theorem textN_sz {g:ByteArray} (h:g.size≤1000000000):SzN 1000000000 (textN g):=
 ⟨⟨by show(0:Int)≤2;omega,by show(2:Int) < 256;omega⟩,Nat.zero_le _,Nat.zero_le _,⟨Nat.zero_le _,fun a ha=>by cases ha⟩,h,by show(_:Int)≤0;omega,by show(0:Int)≤_;omega⟩
theorem textN_szw {g:ByteArray} (h:g.size≤1000000000):SzW [[textN g]]:=by
 refine⟨by show(1:Nat)≤_;omega,fun v hv=>?_⟩
 rw [List.mem_singleton.1 hv]
 refine⟨by show(1:Nat)≤_;omega,fun n hn=>?_⟩
 rw [List.mem_singleton.1 hn]
 exact textN_sz h
theorem gtree_szv {g:ByteArray} (h:g.size≤1000000000):SzV 1000000000 (gtree g):=by
 refine⟨by show(2:Nat)≤_;omega,fun n hn=>?_⟩
 unfold gtree at hn
 rcases List.mem_cons.1 hn with rfl|hn
 ·exact⟨⟨by show(0:Int)≤1;omega,by show(1:Int) < 256;omega⟩,by show(16:Nat)≤_;omega,by show(5:Nat)≤_;omega,⟨Nat.zero_le _,fun a ha=>by cases ha⟩,Nat.zero_le _,by show(_:Int)≤1;omega,by show(1:Int)≤_;omega⟩
 ·rw [List.mem_singleton.1 hn]
  exact textN_sz h
theorem groups_szw {x:ItemL} (h:SzI x):SzW (x.groups.map gtree):=by
 refine⟨by rw [List.length_map];have:=h.2.2.1;omega,fun v hv=>?_⟩
 obtain⟨g,hg,rfl⟩:=List.mem_map.1 hv
 exact gtree_szv (h.2.2.2 g hg)
theorem wordSub_sz (x:ItemL):(wordSub x).size≤4:=by unfold wordSub;split <;> (try split) <;> (try split) <;> decide
theorem asksB_sz (x:ItemL):(asksB x).size≤9:=by unfold asksB;split <;> decide
theorem itemN_sz {x:ItemL} (h:SzI x):SzN 1000000000 (itemN x):=by
 have h1:=wordSub_sz x
 have h2:=asksB_sz x
 have hl:(attrsIt x).length≤4:=by
  unfold attrsIt
  have q1:=withA_len [] (⟨#[106,105,100]⟩:ByteArray) x.jid
  have q2:=withA_len (withA [] (⟨#[106,105,100]⟩:ByteArray) x.jid) (⟨#[110,97,109,101]⟩:ByteArray) x.name
  have q3:=withA_len (withA (withA [] (⟨#[106,105,100]⟩:ByteArray) x.jid) (⟨#[110,97,109,101]⟩:ByteArray) x.name) (⟨#[115,117,98,115,99,114,105,112,116,105,111,110]⟩:ByteArray) (wordSub x)
  have q4:=withA_len (withA (withA (withA [] (⟨#[106,105,100]⟩:ByteArray) x.jid) (⟨#[110,97,109,101]⟩:ByteArray) x.name) (⟨#[115,117,98,115,99,114,105,112,116,105,111,110]⟩:ByteArray) (wordSub x)) (⟨#[97,115,107]⟩:ByteArray) (asksB x)
  simp only [List.length_nil] at q1
  omega
 refine⟨⟨by show(0:Int)≤1;omega,by show(1:Int) < 256;omega⟩,by show(16:Nat)≤_;omega,by show(4:Nat)≤_;omega,⟨by show(attrsIt x).length≤_;omega,?_⟩,Nat.zero_le _,by show(_:Int)≤0;omega,by show(0:Int)≤_;omega⟩
 exact withA_sz (withA_sz (withA_sz (withA_sz (fun a ha=>by cases ha) (by decide) h.1) (by decide) h.2.1) (by decide) (by omega)) (by decide) (by omega)
theorem txt_load (w:World) (g:ByteArray):∃W,W=(w.alloc (.cells #[.int .u8 2,.string ⟨#[]⟩,.string ⟨#[]⟩,.slice none 0 0,.string g,.int .i64 0] 36)).alloc (.cells #[.slice (some ⟨w.heap.size,0,none⟩) 1 1] 22)∧RdW W W.heap.size (some ⟨w.heap.size+1,0,none⟩) [[textN g]]∧Below w.heap.size w W:=by
 refine⟨_,rfl,?_,((Below.refl _ _).alloc (Nat.le_refl _) _).alloc (by simp) _⟩
 have h1:=al_at w ((w.alloc (.cells #[.int .u8 2,.string ⟨#[]⟩,.string ⟨#[]⟩,.slice none 0 0,.string g,.int .i64 0] 36)).alloc (.cells #[.slice (some ⟨w.heap.size,0,none⟩) 1 1] 22)) _ _ rfl ((Below.refl _ _).alloc (by simp) _)
 have h2:=al_at (w.alloc (.cells #[.int .u8 2,.string ⟨#[]⟩,.string ⟨#[]⟩,.slice none 0 0,.string g,.int .i64 0] 36)) ((w.alloc (.cells #[.int .u8 2,.string ⟨#[]⟩,.string ⟨#[]⟩,.slice none 0 0,.string g,.int .i64 0] 36)).alloc (.cells #[.slice (some ⟨w.heap.size,0,none⟩) 1 1] 22)) _ (w.heap.size+1) (by simp) (Below.refl _ _)
 generalize ((w.alloc (.cells #[.int .u8 2,.string ⟨#[]⟩,.string ⟨#[]⟩,.slice none 0 0,.string g,.int .i64 0] 36)).alloc (.cells #[.slice (some ⟨w.heap.size,0,none⟩) 1 1] 22))=W at *
 have l1:=(Array.getElem?_eq_some_iff.1 h1).1
 have l2:=(Array.getElem?_eq_some_iff.1 h2).1
 have hV:RdV W W.heap.size (some ⟨w.heap.size,0,none⟩) [textN g]:=rdv_one (n:=textN g) (A:=none) (c:=0) h1 l1 (fun h=>absurd h (by simp [textN])) (Nat.zero_le _)
 refine fun _=>⟨w.heap.size+1,0,rfl,l2,fun i v hi=>?_⟩
 cases i with
 | succ i=>simp at hi
 | zero=>
  simp only [List.getElem?_cons_zero,Option.some.injEq] at hi
  subst hi
  exact⟨some ⟨w.heap.size,0,none⟩,1,by simp [World.cell?,h2],Nat.le_refl _,hV⟩
set_option maxHeartbeats 4000000 in
set_option maxRecDepth 10000 in
theorem sitem_gone (x:ItemL) (A:Option Addr) (c:Nat) (w:World) :
  Calls Tryz.prog 67 #[encT x A c,.bool true] w (TwinPost (itemT true x) w):=by
 obtain⟨W0,hW0⟩:∃W0,W0=w.alloc (.cells (cI x A c) 54):=⟨_,rfl⟩
 have hX0:Below w.heap.size w W0:=by rw [hW0];exact(Below.refl _ _).alloc (Nat.le_refl _) _
 have R0:Hid (Row W0 w.heap.size (cI x A c)):=Lib.hid (by rw [hW0];exact Row.new w _ _)
 obtain⟨W1,hW1⟩:∃W1,W1=W0.alloc (.cells #[.string (⟨#[106,105,100]⟩:ByteArray),.string x.jid,.string (⟨#[110,97,109,101]⟩:ByteArray),.string x.name,.string (⟨#[115,117,98,115,99,114,105,112,116,105,111,110]⟩:ByteArray),.string (⟨#[114,101,109,111,118,101]⟩:ByteArray)] 9):=⟨_,rfl⟩
 have hX1:Below W0.heap.size W0 W1:=by rw [hW1];exact(Below.refl _ _).alloc (Nat.le_refl _) _
 have hR1:RdS W1 (some ⟨W0.heap.size,0,none⟩) [(⟨#[106,105,100]⟩:ByteArray),x.jid,(⟨#[110,97,109,101]⟩:ByteArray),x.name,(⟨#[115,117,98,115,99,114,105,112,116,105,111,110]⟩:ByteArray),(⟨#[114,101,109,111,118,101]⟩:ByteArray)]:=by rw [hW1];exact RdS.new W0 9 [(⟨#[106,105,100]⟩:ByteArray),x.jid,(⟨#[110,97,109,101]⟩:ByteArray),x.name,(⟨#[115,117,98,115,99,114,105,112,116,105,111,110]⟩:ByteArray),(⟨#[114,101,109,111,118,101]⟩:ByteArray)]
 have HE:=Lib.hid (elem_any (⟨#[106,97,98,98,101,114,58,105,113,58,114,111,115,116,101,114]⟩:ByteArray) (⟨#[105,116,101,109]⟩:ByteArray) [(⟨#[106,105,100]⟩:ByteArray),x.jid,(⟨#[110,97,109,101]⟩:ByteArray),x.name,(⟨#[115,117,98,115,99,114,105,112,116,105,111,110]⟩:ByteArray),(⟨#[114,101,109,111,118,101]⟩:ByteArray)] (some ⟨W0.heap.size,0,none⟩) 6 W1 hR1 (by simp))
 rw [show pairsT [(⟨#[106,105,100]⟩:ByteArray),x.jid,(⟨#[110,97,109,101]⟩:ByteArray),x.name,(⟨#[115,117,98,115,99,114,105,112,116,105,111,110]⟩:ByteArray),(⟨#[114,101,109,111,118,101]⟩:ByteArray)] (([(⟨#[106,105,100]⟩:ByteArray),x.jid,(⟨#[110,97,109,101]⟩:ByteArray),x.name,(⟨#[115,117,98,115,99,114,105,112,116,105,111,110]⟩:ByteArray),(⟨#[114,101,109,111,118,101]⟩:ByteArray)]:List ByteArray).length / 2)=attrsGo x from by dsimp only [List.length_cons,List.length_nil];rfl] at HE
 have HT:Hid (itemT true x=[⟨1,(⟨#[106,97,98,98,101,114,58,105,113,58,114,111,115,116,101,114]⟩:ByteArray),(⟨#[105,116,101,109]⟩:ByteArray),attrsGo x,emB,0⟩]):=rfl
 unfold ElemE encN mkN emB at HE
 dsimp only [List.length_cons,List.length_nil] at HE
 have X1:=Lib.hid (hX0.trans (hX1.mono hX0.size))
 have HW0:=Lib.hid hW0
 have HW1:=Lib.hid hW1
 clear hX0 hX1 hW0 hW1 hR1
 generalize itemT true x=T at *
 generalize attrsGo x=L at *
 unfold encT
 unfold cI at *
 generalize x.jid=xj at *
 generalize x.name=xn at *
 go_enter Tryz.func67,Tryz.ntmps67
 go_upto_region 1 with fail
 rw [←HW0.out]
 clear HW0
 have k0:W0.cell? ⟨w.heap.size,0,none⟩=some _:=R0.out.at' 0 rfl
 have k1:W0.cell? ⟨w.heap.size,1,none⟩=some _:=R0.out.at' 1 rfl
 have k2:W0.cell? ⟨w.heap.size,2,none⟩=some _:=R0.out.at' 2 rfl
 have k3:W0.cell? ⟨w.heap.size,3,none⟩=some _:=R0.out.at' 3 rfl
 have k4:W0.cell? ⟨w.heap.size,4,none⟩=some _:=R0.out.at' 4 rfl
 have k5:W0.cell? ⟨w.heap.size,5,none⟩=some _:=R0.out.at' 5 rfl
 have k6:W0.cell? ⟨w.heap.size,6,none⟩=some _:=R0.out.at' 6 rfl
 have k7:W0.cell? ⟨w.heap.size,7,none⟩=some _:=R0.out.at' 7 rfl
 go_wp2_with fail
 rw [←HW1.out]
 refine HE.out.mono ?_
 rintro e w2 ⟨A2,c2,rfl,hl2,hn2,hb2⟩
 have X2:=Lib.hid (X1.out.trans (hb2.mono X1.out.size))
 have HN:=Lib.hid (newv_one (base:=w.heap.size) (n:=⟨1,(⟨#[106,97,98,98,101,114,58,105,113,58,114,111,115,116,101,114]⟩:ByteArray),(⟨#[105,116,101,109]⟩:ByteArray),L,emB,0⟩) (fun h0=>by
  obtain⟨b,off,q1,q2,q3⟩:=hn2 h0
  exact⟨b,off,q1,Nat.le_trans X1.out.size q2,q3⟩) hl2 X2.out.size)
 have X3:=Lib.hid (X2.out.alloc X2.out.size (.cells #[.int .u8 1,.string (⟨#[106,97,98,98,101,114,58,105,113,58,114,111,115,116,101,114]⟩:ByteArray),.string (⟨#[105,116,101,109]⟩:ByteArray),.slice A2 L.length c2,.string ⟨#[]⟩,.int .i64 0] 36))
 unfold emB at HN
 dsimp only at HN
 clear hl2 hn2 hb2 k0 k1 k2 k3 k4 k5 k6 k7 R0 HE HW1
 go_wp2
 go_ret
 rw [HT.out]
 exact⟨some ⟨w2.heap.size,0,none⟩,1,rfl,Nat.le_refl _,HN.out,X3.out⟩
end Go.Proofs.YtnmnpnofdgdigaaGreatDoor
end
section
namespace Go.Proofs.YtnmnpnofdgdigaaGreatDoor
open Go.RowKit
set_option linter.unusedSimpArgs false
set_option linter.unusedVariables false
theorem pairs_item (x:ItemL):pairsT [(⟨#[106,105,100]⟩:ByteArray),x.jid,(⟨#[110,97,109,101]⟩:ByteArray),x.name,(⟨#[115,117,98,115,99,114,105,112,116,105,111,110]⟩:ByteArray),wordSub x,(⟨#[97,115,107]⟩:ByteArray),asksB x] (([(⟨#[106,105,100]⟩:ByteArray),x.jid,(⟨#[110,97,109,101]⟩:ByteArray),x.name,(⟨#[115,117,98,115,99,114,105,112,116,105,111,110]⟩:ByteArray),wordSub x,(⟨#[97,115,107]⟩:ByteArray),asksB x]:List ByteArray).length / 2)=attrsIt x:=by
 dsimp only [List.length_cons,List.length_nil];rfl
theorem gtree_two (g:ByteArray):(gtree g).length=2:=rfl
set_option maxHeartbeats 16000000 in
set_option maxRecDepth 10000 in
theorem sitem_here (x:ItemL) (A:Option Addr) (c:Nat) (w:World) (hz:SzI x) (hr:RdS w A x.groups) (hc:x.groups.length≤c) (hi:itemI x=true) :
  Calls Tryz.prog 67 #[encT x A c,.bool false] w (TwinPost (itemT false x) w):=by
 obtain⟨W0,hW0⟩:∃W0,W0=w.alloc (.cells (cI x A c) 54):=⟨_,rfl⟩
 have hX0:Below w.heap.size w W0:=by rw [hW0];exact(Below.refl _ _).alloc (Nat.le_refl _) _
 have R0:Hid (Row W0 w.heap.size (cI x A c)):=Lib.hid (by rw [hW0];exact Row.new w _ _)
 have hsub:subI x=true:=by
  unfold itemI at hi
  simp only [Bool.and_eq_true] at hi
  exact hi.1.2
 have HNM:=Lib.hid (fun W=>subname_any x W hsub)
 have HPI:=Lib.hid (fun(Aq:Option Addr) (cq:Nat) (B:Option Addr) (cb:Nat) (W:World) (h1:RdA W W.heap.size B (attrsIt x)) (h2:(attrsIt x).length≤cb) (h3:RdW W W.heap.size Aq (x.groups.map gtree))=>put_node (itemN x) B cb (x.groups.map gtree) Aq cq W (itemN_sz hz) h1 h2 (groups_szw hz) h3)
 unfold PutPost at HPI
 rw [(item_put hi).1,(item_put hi).2,List.length_map] at HPI
 unfold encN itemN at HPI
 have HE:=Lib.hid (fun(B:Option Addr) (W:World) (h:RdS W B [(⟨#[106,105,100]⟩:ByteArray),x.jid,(⟨#[110,97,109,101]⟩:ByteArray),x.name,(⟨#[115,117,98,115,99,114,105,112,116,105,111,110]⟩:ByteArray),wordSub x,(⟨#[97,115,107]⟩:ByteArray),asksB x])=>elem_any rosN (⟨#[105,116,101,109]⟩:ByteArray) [(⟨#[106,105,100]⟩:ByteArray),x.jid,(⟨#[110,97,109,101]⟩:ByteArray),x.name,(⟨#[115,117,98,115,99,114,105,112,116,105,111,110]⟩:ByteArray),wordSub x,(⟨#[97,115,107]⟩:ByteArray),asksB x] B 8 W h (by simp))
 rw [pairs_item] at HE
 unfold ElemE encN mkN at HE
 dsimp only [List.length_cons,List.length_nil] at HE
 have HG:=Lib.hid (fun(W:World)=>elem_any rosN (⟨#[103,114,111,117,112]⟩:ByteArray) [] none 0 W (fun h=>absurd h (by decide)) (by simp))
 rw [show pairsT [] (([]:List ByteArray).length / 2)=[] from rfl] at HG
 unfold ElemE encN mkN at HG
 dsimp only [List.length_nil] at HG
 have HGT:=Lib.hid (fun(g:ByteArray) (hg:g∈x.groups) (B:Option Addr) (cb:Nat) (Aq:Option Addr) (W:World) (h:RdW W W.heap.size Aq [[textN g]])=>put_node (groupN 0) B cb [[textN g]] Aq 1 W group_sz (fun h0=>absurd h0 (by decide)) (Nat.zero_le _) (textN_szw (hz.2.2.2 g hg)) h)
 unfold PutPost at HGT
 have HGP:=Lib.hid (fun(g:ByteArray) (hg:g∈x.groups)=>group_put ((groups_ok hi).2 g hg).1 ((groups_ok hi).2 g hg).2)
 unfold encN groupN at HGT HGP
 unfold rosN emB at *
 dsimp only [List.length_cons,List.length_nil] at HGT HPI HE HG HGP
 have hln:=(groups_ok hi).1
 have HASK:Box (asksB x=if x.out then(⟨#[115,117,98,115,99,114,105,98,101]⟩:ByteArray) else⟨#[]⟩):=⟨rfl⟩
 have HR:=Lib.hid (hr.ext hX0)
 have X0:=Lib.hid hX0
 have HW0:=Lib.hid hW0
 clear hX0 hW0 hr hz hi hsub
 unfold TwinPost
 unfold encT
 unfold cI at *
 generalize itemT false x=T at *
 generalize attrsIt x=L at *
 generalize wordSub x=ws at *
 generalize asksB x=ask at *
 generalize x.groups=gs at *
 generalize x.jid=xj at *
 generalize x.name=xn at *
 cases ho:x.out
 all_goals
  rw [ho] at HASK HNM R0 HW0
  have hask:=HASK.out
  try simp only [Bool.false_eq_true,if_false] at hask
  try simp only [if_true] at hask
  have HAK:=Lib.hid hask
  clear HASK ho hask
  generalize x.to=xt at *
  generalize x.frm=xf at *
  generalize x.inn=xi at *
  generalize x.known=xk at *
  go_enter Tryz.func67,Tryz.ntmps67
  go_upto_region 1 with fail
  rw [←HW0.out]
  clear HW0
  have k0:W0.cell? ⟨w.heap.size,0,none⟩=some _:=R0.out.at' 0 rfl
  have k1:W0.cell? ⟨w.heap.size,1,none⟩=some _:=R0.out.at' 1 rfl
  have k2:W0.cell? ⟨w.heap.size,2,none⟩=some _:=R0.out.at' 2 rfl
  have k3:W0.cell? ⟨w.heap.size,3,none⟩=some _:=R0.out.at' 3 rfl
  have k4:W0.cell? ⟨w.heap.size,4,none⟩=some _:=R0.out.at' 4 rfl
  have k5:W0.cell? ⟨w.heap.size,5,none⟩=some _:=R0.out.at' 5 rfl
  have k6:W0.cell? ⟨w.heap.size,6,none⟩=some _:=R0.out.at' 6 rfl
  have k7:W0.cell? ⟨w.heap.size,7,none⟩=some _:=R0.out.at' 7 rfl
  go_wp2_with fail
  refine(HNM.out _).mono ?_
  rintro e w1 ⟨rfl,hb1⟩
  have X1:=Lib.hid (X0.out.trans (hb1.mono X0.out.size))
  have R1:=Lib.hid (R0.out.ext hb1)
  have HR1:=Lib.hid (HR.out.ext hb1)
  clear hb1 k0 k1 k2 k3 k4 k5 k6 k7 R0 HR X0 HNM
  have k0:w1.cell? ⟨w.heap.size,0,none⟩=some _:=R1.out.at' 0 rfl
  have k1:w1.cell? ⟨w.heap.size,1,none⟩=some _:=R1.out.at' 1 rfl
  have k2:w1.cell? ⟨w.heap.size,2,none⟩=some _:=R1.out.at' 2 rfl
  have k3:w1.cell? ⟨w.heap.size,3,none⟩=some _:=R1.out.at' 3 rfl
  have k4:w1.cell? ⟨w.heap.size,4,none⟩=some _:=R1.out.at' 4 rfl
  have k5:w1.cell? ⟨w.heap.size,5,none⟩=some _:=R1.out.at' 5 rfl
  have k6:w1.cell? ⟨w.heap.size,6,none⟩=some _:=R1.out.at' 6 rfl
  have k7:w1.cell? ⟨w.heap.size,7,none⟩=some _:=R1.out.at' 7 rfl
  go_wp2
  clear k0 k1 k2 k3 k4 k5 k6 k7
  go_loopw [9,11,12,13,35] (fun s9 _ _ _ s35 wr=>∃(i:Nat) (ts:List TreeH),i≤gs.length∧s35=.int .i64 i∧Hid (ts.length=i)∧Hid (Below w1.heap.size w1 wr)∧Hid (ts.map (·.1)=(gs.take i).map gtree)∧Hid (RowT w1.heap.size s9 wr ts)) (fun _ _ _ _ s35 _=>gs.length - (intOf s35).toNat)
  case atStart=>exact⟨0,[],Nat.zero_le _,rfl,Lib.hid rfl,Lib.hid (Below.refl _ _),Lib.hid rfl,RowT.nil _ _⟩
  case round=>
   obtain⟨i,ts,hi,rfl,hti,HB,HM,HT⟩:=hrel
   obtain⟨A2,c2,rfl⟩:=own_form HT.out.1
   have hszr:=HB.out.size
   by_cases hlt:i < gs.length
   ·obtain⟨g,hg⟩:∃g,gs[i]? = some g:=⟨_,List.getElem?_eq_getElem hlt⟩
    have hgm:g∈gs:=List.mem_of_getElem? hg
    have HTK:Hid ((gs.take (i+1)).map gtree=(gs.take i).map gtree++[gtree g]):=Lib.hid (by rw [List.take_add_one,hg];simp)
    obtain⟨b,off,rfl,hb,hcc⟩:=HR1.out (by omega)
    have e0:=(HB.out.cell (p:=⟨b,off+i,none⟩) hb).trans (hcc i g hg)
    have HG1:=Lib.hid (HGT.out g hgm)
    rw [(HGP.out g hgm).1,(HGP.out g hgm).2] at HG1
    clear hcc hg
    go_wp2_with fail
    refine(HG.out _).mono ?_
    rintro e w3 ⟨A3,c3,rfl,-,-,hb3⟩
    obtain⟨W4,hW4,hR4,hX4⟩:=txt_load w3 g
    have B4:=Lib.hid ((HB.out.trans (hb3.mono hszr)).trans (hX4.mono (Nat.le_trans hszr hb3.size)))
    have T4:=Lib.hid ((HT.out.ext hb3).ext hX4)
    have HP:=Lib.hid (HG1.out A3 c3 (some ⟨w3.heap.size+1,0,none⟩) W4 hR4)
    have HW4:=Lib.hid hW4
    clear hW4 hR4 hX4 hb3 HG1 e0
    go_wp2_with fail
    rw [←HW4.out]
    refine HP.out.mono ?_
    rintro e w5 ⟨A5,c5,rfl,hl5,hn5,hb5⟩
    have HTG:Hid (0 < (gtree g).length):=Lib.hid (by rw [gtree_two];omega)
    generalize gtree g=G at *
    have B5:=Lib.hid (B4.out.trans (hb5.mono B4.out.size))
    have T5:=Lib.hid (T4.out.ext hb5)
    have hs5:=B5.out.size
    have hs4:=B4.out.size
    have HNX:Hid (NewVX w1.heap.size (.slice A2 ts.length c2) (w5.alloc (.cells #[.slice A5 G.length c5] 22)) A5 c5 G):=Lib.hid ((NewVX.of hn5 HTG.out hs4 (fun g hg=>(T4.out.1.lt g hg).2)).ext ((Below.refl _ _).alloc (Nat.le_refl _) _))
    have HTA:=Lib.hid (T5.out.ext ((Below.refl _ _).alloc (Nat.le_refl _) (.cells #[.slice A5 G.length c5] 22)))
    have HRN:Hid (Rd (w5.alloc (.cells #[.slice A5 G.length c5] 22)) (w5.heap.size+1) 1 (some ⟨w5.heap.size,0,none⟩) 1 (cellsT [(G,A5,c5)])):=Rd.new w5 22 #[.slice A5 G.length c5] (s:=1) (n:=1) rfl
    have HL5:=Lib.hid hl5
    clear hb5 hn5 hl5 HW4 HP
    go_wp2_with (at_builtin;refine app_trees rfl _ _ rfl w1.heap.size _ ts.length ts rfl HTA.out.1 _ _ _ _ [(G,A5,c5)] rfl HRN.out (by have:=hti.out;omega) (by simp;omega) ?_)
    intro v6 w6 hown6 hg6 hbk
    have T6:=Lib.hid (RowT.app HTA.out ⟨HTG.out,HL5.out,HNX.out⟩ hown6 hg6 (by simpa using hbk))
    have B6:Hid (Below w1.heap.size w1 w6):=(B5.out.alloc B5.out.size _).grown hg6 (by have:=B5.out.size;simp;omega) (fun q hq=>(HT.out.1.lt q hq).1)
    clear hown6 hg6 hbk
    go_wp2
    go_roundw
    case rel=>exact⟨i+1,ts++[(G,A5,c5)],by omega,by go_num,Lib.hid (by rw [List.length_append,hti.out];rfl),B6,Lib.hid (by rw [HTK.out,List.map_append,HM.out];rfl),T6⟩
    case measure=>simp [intOf];omega
   ·obtain rfl:i=gs.length:=by omega
    have XR:=Lib.hid (X1.out.trans (HB.out.mono X1.out.size))
    have Rr:=Lib.hid (R1.out.ext HB.out)
    have RW:Hid (RdW wr wr.heap.size A2 (gs.map gtree)):=Lib.hid (by have h:=HT.out.rdw rfl;rw [HM.out,List.take_length] at h;exact h)
    have htl:=hti.out
    obtain⟨W7,hW7⟩:∃W7,W7=wr.alloc (.cells #[.string (⟨#[106,105,100]⟩:ByteArray),.string xj,.string (⟨#[110,97,109,101]⟩:ByteArray),.string xn,.string (⟨#[115,117,98,115,99,114,105,112,116,105,111,110]⟩:ByteArray),.string ws,.string (⟨#[97,115,107]⟩:ByteArray),.string ask] 9):=⟨_,rfl⟩
    have hX7:Below wr.heap.size wr W7:=by rw [hW7];exact(Below.refl _ _).alloc (Nat.le_refl _) _
    have HE7:=Lib.hid (HE.out (some ⟨wr.heap.size,0,none⟩) W7 (by rw [hW7];exact RdS.new wr 9 [(⟨#[106,105,100]⟩:ByteArray),xj,(⟨#[110,97,109,101]⟩:ByteArray),xn,(⟨#[115,117,98,115,99,114,105,112,116,105,111,110]⟩:ByteArray),ws,(⟨#[97,115,107]⟩:ByteArray),ask]))
    have X7:=Lib.hid (XR.out.trans (hX7.mono XR.out.size))
    have RW7:=Lib.hid (RdW.ext RW.out hX7)
    rw [HAK.out] at hW7
    have HW7:=Lib.hid hW7
    clear hW7 hX7 HE RW
    rw [htl]
    have k0:wr.cell? ⟨w.heap.size,0,none⟩=some _:=Rr.out.at' 0 rfl
    have k1:wr.cell? ⟨w.heap.size,1,none⟩=some _:=Rr.out.at' 1 rfl
    have k2:wr.cell? ⟨w.heap.size,2,none⟩=some _:=Rr.out.at' 2 rfl
    have k3:wr.cell? ⟨w.heap.size,3,none⟩=some _:=Rr.out.at' 3 rfl
    have k4:wr.cell? ⟨w.heap.size,4,none⟩=some _:=Rr.out.at' 4 rfl
    have k5:wr.cell? ⟨w.heap.size,5,none⟩=some _:=Rr.out.at' 5 rfl
    have k6:wr.cell? ⟨w.heap.size,6,none⟩=some _:=Rr.out.at' 6 rfl
    have k7:wr.cell? ⟨w.heap.size,7,none⟩=some _:=Rr.out.at' 7 rfl
    go_wp2_with fail
    rw [←HW7.out]
    refine HE7.out.mono ?_
    rintro e w8 ⟨A8,c8,rfl,hl8,hn8,hb8⟩
    have X8:=Lib.hid (X7.out.trans (hb8.mono X7.out.size))
    have HP:=Lib.hid (HPI.out A2 c2 A8 c8 w8 hn8.rda hl8 (RdW.ext RW7.out hb8))
    clear hl8 hn8 hb8 HE7 HW7 k0 k1 k2 k3 k4 k5 k6 k7
    go_wp2_with fail
    refine HP.out.mono ?_
    rintro e w9 ⟨A9,c9,rfl,hl9,hn9,hb9⟩
    have HN9:=Lib.hid (hn9.mono X8.out.size)
    have X9:=Lib.hid (X8.out.trans (hb9.mono X8.out.size))
    have HL9:=Lib.hid hl9
    clear hl9 hn9 hb9 HP
    go_wp2
    go_ret
    exact⟨A9,c9,rfl,HL9.out,HN9.out,X9.out⟩
theorem sitem_any (x:ItemL) (gone:Bool) (A:Option Addr) (c:Nat) (w:World) (hz:SzI x) (hr:RdS w A x.groups) (hc:x.groups.length≤c) (hi:itemI x=true) :
  Calls Tryz.prog 67 #[encT x A c,.bool gone] w (TwinPost (itemT gone x) w):=by
 cases gone
 ·exact sitem_here x A c w hz hr hc hi
 ·exact sitem_gone x A c w
end Go.Proofs.YtnmnpnofdgdigaaGreatDoor
end
section
namespace Go.Proofs.YtnmnpnofdgdigaaGreatDoor
open Go.RowKit
set_option linter.unusedSimpArgs false
set_option linter.unusedVariables false
theorem dec_dig:∀(f n:Nat),n < 10 ^ (f+1)→(Lib.decDigits n)=(digF f n).map (fun x=>UInt8.ofNat x.toNat)
 | 0,n,h=>by
  have h10:n < 10:=by simpa using h
  rw [Lib.decDigits_one h10]
  unfold digF
  rw [List.map_singleton,show(48+(n:Int) % 10).toNat=48+n by omega]
 | f+1,n,h=>by
  unfold digF
  split
  ·rename_i h9
   rw [Lib.decDigits_one (by omega),List.map_singleton,show(48+(n:Int)).toNat=48+n by omega]
  ·rename_i h9
   rw [Lib.decDigits,dif_neg (by omega),List.map_append,List.map_singleton,dec_dig f (n / 10) (by rw [Nat.pow_succ] at h;omega),show(48+(n:Int) % 10).toNat=48+n % 10 by omega]
theorem itoa_dig {n:Nat} (h:n≤9007199254740991):(⟨(Lib.itoa (n:Int)).toArray⟩:ByteArray)=digS n:=by
 have h1:Lib.itoa (n:Int)=Lib.decDigits n:=by
  unfold Lib.itoa
  rw [if_neg (by omega)]
  rfl
 unfold digS
 apply ba_ext
 rw [strOfNums_data,h1,dec_dig 19 n (by omega)]
def numW (n:Int):ByteArray:=if decide (0≤n∧n≤9007199254740991) then digS n.toNat else⟨#[]⟩
def numWE (n:Int):Int:=if decide (0≤n∧n≤9007199254740991) then 0 else 2
set_option maxHeartbeats 4000000 in
set_option maxRecDepth 10000 in
theorem nwrite_any (n:Int) (w:World) (hp:Pow w):Calls Tryz.prog 65 #[.int .i64 n] w fun e w'=>e=.returned (.tuple #[.string (numW n),.int .i64 (numWE n)])∧Below w.heap.size w w':=by
 have HF:=Lib.hid (fun(a b:Int) (ha:a=0) (hb:b=9007199254740991)=>from_any n a b w)
 have HW:Box (numW n=if decide (0≤n∧n≤9007199254740991) then digS n.toNat else⟨#[]⟩):=⟨rfl⟩
 have HE:Box (numWE n=if decide (0≤n∧n≤9007199254740991) then 0 else 2):=⟨rfl⟩
 generalize numW n=r at *
 generalize numWE n=q at *
 by_cases h:0≤n∧n≤9007199254740991
 ·have hd:decide (0≤n∧n≤9007199254740991)=true:=decide_eq_true h
  obtain⟨m,rfl⟩:∃m:Nat,n=(m:Int):=⟨n.toNat,by omega⟩
  have hm:m≤9007199254740991:=by omega
  have hr:=HW.out
  have hq:=HE.out
  rw [hd] at hr hq
  simp only [if_true,Int.toNat_natCast] at hr hq
  subst hr hq
  have HI:=Lib.hid (itoa_any m w hm hp)
  rw [itoa_dig hm] at HI
  have HD:=Lib.hid hd
  clear HW HE h hd hm hp
  generalize digS m=s at *
  go_enter Tryz.func65,Tryz.ntmps65
  go_wp2_with fail
  refine(HF.out _ _ rfl rfl).mono ?_
  rintro e w1 ⟨rfl,rfl⟩
  rw [HD.out]
  go_wp2_with fail
  refine HI.out.mono ?_
  rintro e w1 ⟨rfl,hb⟩
  go_wp2
  go_ret2
  exact⟨rfl,hb⟩
 ·have hd:decide (0≤n∧n≤9007199254740991)=false:=decide_eq_false h
  have hr:=HW.out
  have hq:=HE.out
  rw [hd] at hr hq
  simp only [Bool.false_eq_true,if_false] at hr hq
  subst hr hq
  have HD:=Lib.hid hd
  clear HW HE h hd hp
  go_enter Tryz.func65,Tryz.ntmps65
  go_wp2_with fail
  refine(HF.out _ _ rfl rfl).mono ?_
  rintro e w1 ⟨rfl,rfl⟩
  rw [HD.out]
  go_wp2
  go_ret2
  exact⟨rfl,Below.refl _ _⟩
end Go.Proofs.YtnmnpnofdgdigaaGreatDoor
end
section
namespace Go.Proofs.YtnmnpnofdgdigaaGreatDoor
open Go.RowKit
set_option linter.unusedSimpArgs false
set_option linter.unusedVariables false
section
variable {ops:Array Oper} {w0:World} {Fin:List Ty→Prop} {rest:List Oper} {E:Env} {Ts:List Ty} {o:Oper}
end
theorem digS_sz (n:Nat):(digS n).size≤20:=by
 unfold digS
 rw [str_size]
 exact digF_len 19 n
theorem queryN_sz (ver:Int):SzN 1000000000 (queryN ver):=by
 have h:=digS_sz ver.toNat
 refine⟨⟨by show(0:Int)≤1;omega,by show(1:Int) < 256;omega⟩,by show(16:Nat)≤_;omega,by show(5:Nat)≤_;omega,⟨by show(1:Nat)≤_;omega,fun a ha=>?_⟩,Nat.zero_le _,by show(_:Int)≤0;omega,by show(0:Int)≤_;omega⟩
 rw [List.mem_singleton.1 ha]
 exact⟨Nat.zero_le _,by show(3:Nat)≤_;omega,by show(digS ver.toNat).size≤_;omega⟩
theorem itemT_szv {x:ItemL} (h:SzI x) (hi:itemI x=true) (gone:Bool):SzV 1000000000 (itemT gone x):=by
 have hl:=(item_tre hi gone).2
 refine⟨by omega,?_⟩
 cases gone
 ·exact joinV_sz (itemN_sz h) (groups_szw h).1 (fun v hv=>((groups_szw h).2 v hv).2)
 ·intro n hn
  rw [List.mem_singleton.1 hn]
  have hl2:(attrsGo x).length≤3:=by
   unfold attrsGo
   have q1:=withA_len [] (⟨#[106,105,100]⟩:ByteArray) x.jid
   have q2:=withA_len (withA [] (⟨#[106,105,100]⟩:ByteArray) x.jid) (⟨#[110,97,109,101]⟩:ByteArray) x.name
   have q3:=withA_len (withA (withA [] (⟨#[106,105,100]⟩:ByteArray) x.jid) (⟨#[110,97,109,101]⟩:ByteArray) x.name) (⟨#[115,117,98,115,99,114,105,112,116,105,111,110]⟩:ByteArray) (⟨#[114,101,109,111,118,101]⟩:ByteArray)
   simp only [List.length_nil] at q1
   omega
  refine⟨⟨by show(0:Int)≤1;omega,by show(1:Int) < 256;omega⟩,by show(16:Nat)≤_;omega,by show(4:Nat)≤_;omega,⟨by show(attrsGo x).length≤_;omega,?_⟩,Nat.zero_le _,by show(_:Int)≤0;omega,by show(0:Int)≤_;omega⟩
  show ∀a∈withA (withA (withA [] (⟨#[106,105,100]⟩:ByteArray) x.jid) (⟨#[110,97,109,101]⟩:ByteArray) x.name) (⟨#[115,117,98,115,99,114,105,112,116,105,111,110]⟩:ByteArray) (⟨#[114,101,109,111,118,101]⟩:ByteArray),SzA 1000000000 a
  exact withA_sz (withA_sz (withA_sz (fun a ha=>by cases ha) (by decide) h.1) (by decide) h.2.1) (by decide) (by decide)
theorem items_szw {l:List ItemL} (h:SzL l) (hi:rosI l=true) (gone:Bool):SzW (l.map (itemT gone)):=by
 refine⟨by rw [List.length_map];have:=h.1;omega,fun v hv=>?_⟩
 obtain⟨x,hx,rfl⟩:=List.mem_map.1 hv
 exact itemT_szv (h.2 x hx) ((rosI_item hi).2 x hx) gone
def RosPost (l:List ItemL) (gone:Bool) (ver:Int) (w:World) (e:Ending) (w':World):Prop:=
 ∃A c,e=.returned (.tuple #[.slice A (rosV l gone ver).length c,.int .i64 (rosE l gone ver)])∧(rosV l gone ver).length≤c∧NewV w.heap.size w' A c (rosV l gone ver)∧Below w.heap.size w w'
theorem ros_bad {l:List ItemL} {gone:Bool} {ver:Int} (h:(decide (0≤ver∧ver≤9007199254740991) && rosI l && !(gone && !decide (l.length=1)))=false):rosV l gone ver=[]∧rosE l gone ver=2:=by
 have h2:rosE l gone ver=2:=by unfold rosE;rw [h];rfl
 exact⟨by unfold rosV;rw [h2];rfl,h2⟩
theorem ros_ok {l:List ItemL} {gone:Bool} {ver:Int} (h:(decide (0≤ver∧ver≤9007199254740991) && rosI l && !(gone && !decide (l.length=1)))=true):rosV l gone ver=queryV l gone ver∧rosE l gone ver=0:=by
 have h2:rosE l gone ver=0:=by unfold rosE;rw [h];rfl
 exact⟨by unfold rosV;rw [h2];rfl,h2⟩
theorem ros_no {l:List ItemL} {gone:Bool} {ver:Int} {w w':World} (h:(decide (0≤ver∧ver≤9007199254740991) && rosI l && !(gone && !decide (l.length=1)))=false) (hb:Below w.heap.size w w'):RosPost l gone ver w (.returned (.tuple #[.slice none 0 0,.int .i64 2])) w':=by
 unfold RosPost
 rw [(ros_bad h).1,(ros_bad h).2]
 exact⟨none,0,rfl,Nat.le_refl _,NewV.nil _ _,hb⟩
theorem pairs_query (v:ByteArray):pairsT [(⟨#[118,101,114]⟩:ByteArray),v] (([(⟨#[118,101,114]⟩:ByteArray),v]:List ByteArray).length / 2)=withA [] (⟨#[118,101,114]⟩:ByteArray) v:=by
 dsimp only [List.length_cons,List.length_nil];rfl
theorem digF_pos:∀(f n:Nat),0 < (digF f n).length
 | 0,n=>by unfold digF;simp
 | f+1,n=>by
  unfold digF
  split <;> simp
theorem digS_full (n:Nat):isEmp (digS n)=false:=by
 have h:=digF_pos 19 n
 unfold isEmp digS
 rw [str_size]
 exact decide_eq_false (by omega)
theorem query_at (ver:Int):mkN rosN (⟨#[113,117,101,114,121]⟩:ByteArray) (withA [] (⟨#[118,101,114]⟩:ByteArray) (digS ver.toNat))=queryN ver:=by
 unfold mkN queryN withA
 rw [digS_full]
 rfl
end Go.Proofs.YtnmnpnofdgdigaaGreatDoor
end
