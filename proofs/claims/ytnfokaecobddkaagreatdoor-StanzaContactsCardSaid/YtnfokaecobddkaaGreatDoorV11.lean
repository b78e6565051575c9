/- Part 11 of a proof laid in parts, one behind the other; no condition of its own. -/
import Derived.Test.YtnfokaecobddkaaGreatDoorV07
import Derived.Test.YtnfokaecobddkaaGreatDoorV10
import Derived.Test.YtnfokaecobddkaaGreatDoorV05
import Derived.Test.YtnfokaecobddkaaGreatDoorV06
import Derived.Test.YtnfokaecobddkaaGreatDoorV04
import Derived.Test.YtnfokaecobddkaaGreatDoorV09
import Derived.Test.YtnfokaecobddkaaGreatDoorV08
import Derived.Deep.RegionHeld3
import Derived.IntWalk
set_option linter.all false
section
namespace Go.Proofs.YtnfokaecobddkaaGreatDoor
open Go.RowKit
set_option linter.unusedSimpArgs false
set_option linter.unusedVariables false
def NewVX (base:Nat) (u:Value) (w:World) (A:Option Addr) (c:Nat) (v:List NodeL):Prop:=
 ∃l:List NodeH,l.map (·.1)=v∧w.ownsRow base 69 6 (.slice A v.length c) v.length (cellsN l)∧u.ownBlock≠some (blk A)∧∀(i:Nat) (x:NodeH),l[i]? = some x→x.1.attrs.length≤x.2.2∧NewO base u w x.2.1 x.1.attrs
section
variable {base:Nat} {u u':Value} {w w':World} {A:Option Addr} {c:Nat} {v:List NodeL}
theorem NewVX.ext (h:NewVX base u w A c v) (hb:Below w.heap.size w w'):NewVX base u w' A c v:=by
 obtain⟨l,h1,h2,h3,h4⟩:=h
 exact⟨l,h1,own_keep h2 hb,h3,fun i x hi=>⟨(h4 i x hi).1,(h4 i x hi).2.ext hb⟩⟩
theorem NewVX.app (h:NewVX base u w A c v) (h0:0 < v.length) (hg:w.grownBy w' u.ownBlock) (hr:u'.ownBlock=u.ownBlock∨u'.ownBlock=some w.heap.size):NewVX base u' w' A c v:=by
 obtain⟨l,h1,h2,h3,h4⟩:=h
 obtain⟨g,rfl,h5,h6⟩:=own_some h2 h0
 refine⟨l,h1,h2.kept hg (.inr (fun e=>h3 e.symm)),?_,fun i x hi=>⟨(h4 i x hi).1,(h4 i x hi).2.app hg hr⟩⟩
 rcases hr with e|e <;> rw [e]
 ·exact h3
 ·intro e2
  simp only [Option.some.injEq,blk] at e2
  omega
theorem NewVX.of {base':Nat} (h:NewV base' w A c v) (h0:0 < v.length) (hb:base≤base') (hu:∀g,u.ownBlock=some g→g < base'):NewVX base u w A c v:=by
 obtain⟨l,h1,h2,h3⟩:=h
 obtain⟨g,rfl,h5,h6⟩:=own_some h2 h0
 refine⟨l,h1,own_mono h2 hb,fun e=>by have:=hu _ e;simp only [blk] at this;omega,fun i x hi=>⟨(h3 i x hi).1,fun h00=>?_⟩⟩
 obtain⟨b,off,e1,e2,e3,e4,e5⟩:=(h3 i x hi).2 h00
 exact⟨b,off,e1,by omega,fun e=>by have:=hu _ e;omega,e4,e5⟩
theorem NewO.rda {B:Option Addr} {l:List AttrL} (h:NewO base u w B l):RdA w w.heap.size B l:=fun h0=>by
 obtain⟨b,off,h1,_,_,h2,h3⟩:=h h0
 exact⟨b,off,h1,h2,h3⟩
theorem NewVX.rdv (h:NewVX base u w A c v):RdV w w.heap.size A v:=by
 obtain⟨l,rfl,h2,_,h3⟩:=h
 rw [List.length_map] at h2
 exact rd_rdv (Rd.of_own h2) (fun i x hi=>⟨(h3 i x hi).1,(h3 i x hi).2.rda⟩)
end
def RowT (base:Nat) (u:Value) (w:World) (ts:List TreeH):Prop:=
 w.ownsRow base 30 1 u ts.length (cellsT ts)∧∀x∈ts,0 < x.1.length∧x.1.length≤x.2.2∧NewVX base u w x.2.1 x.2.2 x.1
theorem RowT.nil (base:Nat) (w:World):RowT base (.slice none 0 0) w []:=⟨World.ownsRow_nil _ _ _ _,fun x hx=>by cases hx⟩
theorem RowT.ext {base:Nat} {u:Value} {w w':World} {ts:List TreeH} (h:RowT base u w ts) (hb:Below w.heap.size w w'):RowT base u w' ts:=
 ⟨own_keep h.1 hb,fun x hx=>⟨(h.2 x hx).1,(h.2 x hx).2.1,(h.2 x hx).2.2.ext hb⟩⟩
theorem RowT.app {base:Nat} {u u':Value} {w w':World} {ts:List TreeH} {t:TreeH} (h:RowT base u w ts) (ht:0 < t.1.length∧t.1.length≤t.2.2∧NewVX base u w t.2.1 t.2.2 t.1)
  (hown:w'.ownsRow base 30 1 u' (ts.length+1) (cellsT (ts++[t]))) (hg:w.grownBy w' u.ownBlock) (hr:u'.ownBlock=u.ownBlock∨u'.ownBlock=some w.heap.size):RowT base u' w' (ts++[t]):=by
 refine⟨by rw [List.length_append];exact hown,fun x hx=>?_⟩
 rw [List.mem_append,List.mem_singleton] at hx
 rcases hx with hx|rfl
 ·exact⟨(h.2 x hx).1,(h.2 x hx).2.1,(h.2 x hx).2.2.app (h.2 x hx).1 hg hr⟩
 ·exact⟨ht.1,ht.2.1,ht.2.2.app ht.1 hg hr⟩
theorem RowT.rdw {base n c:Nat} {A:Option Addr} {w:World} {ts:List TreeH} (h:RowT base (.slice A n c) w ts) (hn:n=ts.length):RdW w w.heap.size A (ts.map (·.1)):=fun h0=>by
 subst hn
 rw [List.length_map] at h0
 obtain⟨g,rfl,h1,h2⟩:=own_some h.1 h0
 refine⟨g,0,rfl,h2,fun i v hv=>?_⟩
 rw [List.getElem?_map,Option.map_eq_some_iff] at hv
 obtain⟨x,hx,rfl⟩:=hv
 obtain⟨q1,q2,q3⟩:=h.2 x (List.mem_of_getElem? hx)
 refine⟨x.2.1,x.2.2,?_,q2,q3.rdv⟩
 rw [Nat.zero_add,h.1.cellAt i (by have:=(List.getElem?_eq_some_iff.1 hx).1;omega)]
 simp [cellsT,hx,cT]
def ElemsPost (v:List NodeL) (w:World) (e:Ending) (w':World):Prop:=
 ∃A c ts,e=.returned (.tuple #[.slice A (elemsI v).length c,.bool (blanksI v)])∧(elemsI v).length≤c∧ts.map (·.1)=elemsI v∧RowT w.heap.size (.slice A (elemsI v).length c) w' ts∧Below w.heap.size w w'
theorem kid_kind {v:List NodeL} (ht:treeI v=true) {k:Nat} (hk:k < v.length):(nodeAt v k).kind=1∨(nodeAt v k).kind=2:=by
 obtain⟨x,hx,_⟩:=tree_ends ht hk
 obtain⟨n,hn,h1,_,_⟩:=endN_inv hx
 have e:nodeAt v k=n:=by unfold nodeAt;rw [List.getD_eq_getElem?_getD,hn];rfl
 rw [e]
 exact node_kind h1
theorem node_get {v:List NodeL} {k:Nat} (hk:k < v.length):v[k]? = some (nodeAt v k):=by
 unfold nodeAt
 rw [List.getD_eq_getElem?_getD,List.getElem?_eq_getElem hk]
 rfl
theorem take_kids {l:List Nat} {j k:Nat} (h:l[j]? = some k):l.take (j+1)=l.take j++[k]:=by rw [List.take_add_one,h];rfl
set_option maxHeartbeats 16000000 in
set_option maxRecDepth 10000 in
theorem within_any (v:List NodeL) (A:Option Addr) (c:Nat) (w:World) (hc:v.length≤c) (hz:SzV 1000000000 v) (hr:RdV w w.heap.size A v) (ht:treeI v=true) :
  Calls Tryz.prog 37 #[.slice A v.length c] w (ElemsPost v w):=by
 have hl0:=(tree_parts ht).1
 have hl5:=(tree_parts ht).2.1
 have H:=Lib.hid (kids_any v A c 0 w hc hz hr ht hl0)
 unfold KidsPost at H
 obtain⟨e0,he0,_⟩:=tree_ends ht hl0
 have HLT:=Lib.hid (fun k (hk:k∈kidsI v 0)=>(kids_lt he0 hk).1)
 have HKK:=Lib.hid (fun k (hk:k < v.length)=>kid_kind ht hk)
 have HSUB:=Lib.hid (fun k (hk:k < v.length) (h1:(nodeAt v k).kind=1) W (hW:RdV W W.heap.size A v)=>sub_any v A c k W hc hz hW ht (nodeAt v k) (node_get hk) h1)
 unfold SubPost at HSUB
 have HPL:=Lib.hid (fun k (hk:k < v.length)=>by
  obtain⟨x,hx,h1,h2⟩:=tree_ends ht hk
  have:=part_len hx
  exact(show 0 < (partI v k).length by omega))
 have HZN:=Lib.hid (fun k (hk:k < v.length)=>(szv_get hz (node_get hk)).2.2.2.2.1)
 have HR:=Lib.hid hr
 have HEL:Hid (elemsI v=elemsK v (kidsI v 0)):=rfl
 have HBL:Hid (blanksI v=blanksK v (kidsI v 0)):=rfl
 have HKN:Hid ((kidsI v 0).length≤512):=Lib.hid (by
  have h1:=(chain_start he0).lt (by omega)
  unfold kidsI
  rw [kidL_len]
  have:=(endN_le v 12 0 e0 he0).2
  omega)
 obtain⟨b,off,rfl,hb,hcc⟩:=hr hl0
 have HC0:Hid (∀k,k < v.length→∀W,Below w.heap.size w W→W.cell? ⟨b,off+k*6,none⟩=some (.int .u8 (nodeAt v k).kind)∧W.cell? ⟨b,off+k*6+4,none⟩=some (.string (nodeAt v k).text)):=Lib.hid (fun k hk W hW=>by
  have h:=hcc k _ (node_get hk)
  exact⟨(hW.cell (p:=⟨b,off+k*6,none⟩) hb).trans h.1,(hW.cell (p:=⟨b,off+k*6+4,none⟩) hb).trans h.2.2.2.2.1⟩)
 clear hz hc ht he0 hr hcc
 unfold ElemsPost
 generalize kidsI v 0=ks at *
 have hkn:=HKN.out
 generalize elemsI v=EL at *
 generalize blanksI v=BL at *
 go_enter Tryz.func37,Tryz.ntmps37
 go_wp2_with fail
 refine H.out.mono ?_
 rintro e w1 ⟨uk,rfl,hown1,hb1⟩
 obtain⟨Ak,ck,rfl⟩:=own_form hown1
 have HO1:=Lib.hid hown1
 have X1:=Lib.hid hb1
 clear hown1 hb1
 go_wp2
 go_loopw [2,3,7,8,9,17] (fun s2 s3 _ _ _ s17 wr=>∃(j:Nat) (ts:List TreeH),j≤ks.length∧s17=.int .i64 j∧s3=.bool (blanksK v (ks.take j))∧Hid (Below w1.heap.size w1 wr)∧Hid (ts.map (·.1)=elemsK v (ks.take j))∧Hid (RowT w1.heap.size s2 wr ts)∧ts.length≤j) (fun _ _ _ _ _ s17 _=>ks.length - (intOf s17).toNat)
 case atStart=>exact⟨0,[],Nat.zero_le _,rfl,rfl,Lib.hid (Below.refl _ _),rfl,RowT.nil _ _,Nat.le_refl _⟩
 case round=>
  obtain⟨j,ts,hj,rfl,rfl,HB,HM,HT,htj⟩:=hrel
  obtain⟨A2,c2,rfl⟩:=own_form HT.out.1
  have HBW:Hid (Below w.heap.size w wr):=X1.out.trans (HB.out.mono X1.out.size)
  by_cases hlt:j < ks.length
  ·obtain⟨k,hk⟩:∃k,ks[j]? = some k:=⟨_,List.getElem?_eq_getElem hlt⟩
   have hkv:=HLT.out k (List.mem_of_getElem? hk)
   obtain⟨gk,rfl,hgk1,hgk2⟩:=own_some HO1.out (by omega)
   have d0:=(HB.out.cell (p:=⟨gk,j,none⟩) hgk2).trans ((HO1.out.cellAt j (by omega)).trans (by simp [ints,hk];rfl))
   obtain⟨d1,d2⟩:=HC0.out k hkv wr HBW.out
   have HTK:=Lib.hid (take_kids hk)
   have hkk:=HKK.out k hkv
   have HBS:=Lib.hid (blanksK_succ v (ks.take j) k)
   have HES:=Lib.hid (elemsK_succ v (ks.take j) k)
   rw [←HTK.out] at HBS HES
   have HS:=Lib.hid (HSUB.out k hkv)
   have hpl:=HPL.out k hkv
   have htz:=HZN.out k hkv
   clear hk HTK
   generalize nodeAt v k=n at *
   rcases hkk with hk1|hk2
   ·rw [hk1] at d1
    have HS1:=Lib.hid (HS.out hk1 wr ((HR.out.below HBW.out (Nat.le_refl _)).more HBW.out.size))
    rw [if_pos hk1] at HES
    rw [decide_eq_true hk1,Bool.true_or,Bool.and_true] at HBS
    clear HS
    generalize partI v k=P at *
    generalize blanksK v (ks.take j)=bb at *
    go_wp2_with fail
    refine HS1.out.mono ?_
    rintro e2 w2 ⟨A3,c3,rfl,hl3,hnew,hb2⟩
    have X2:=Lib.hid (HB.out.trans (hb2.mono HB.out.size))
    have HT2:=Lib.hid (HT.out.ext hb2)
    have hsz2:=hb2.size
    have hszr:=HB.out.size
    have HNX:Hid (NewVX w1.heap.size (.slice A2 ts.length c2) (w2.alloc (.cells #[.slice A3 P.length c3] 30)) A3 c3 P):=Lib.hid ((NewVX.of hnew hpl hszr (fun g hg=>(HT.out.1.lt g hg).2)).ext ((Below.refl _ _).alloc (Nat.le_refl _) _))
    have HTA:=Lib.hid (HT2.out.ext ((Below.refl _ _).alloc (Nat.le_refl _) (.cells #[.slice A3 P.length c3] 30)))
    have HRN:Hid (Rd (w2.alloc (.cells #[.slice A3 P.length c3] 30)) (w2.heap.size+1) 1 (some ⟨w2.heap.size,0,none⟩) 1 (cellsT [(P,A3,c3)])):=Rd.new w2 30 #[.slice A3 P.length c3] (s:=1) (n:=1) rfl
    have HL3:=Lib.hid hl3
    clear hb2 hnew hl3 d0 d1 d2
    go_wp2_with (at_builtin;refine app_trees rfl _ _ rfl w1.heap.size _ ts.length ts rfl HTA.out.1 _ _ _ _ [(P,A3,c3)] rfl HRN.out (by omega) (by simp;omega) ?_)
    intro v4 w4 hown4 hg4 hbk
    have HT4:=Lib.hid (RowT.app HTA.out ⟨hpl,HL3.out,HNX.out⟩ hown4 hg4 (by simpa using hbk))
    have HX4:Hid (Below w1.heap.size w1 w4):=(X2.out.alloc X2.out.size _).grown hg4 (by have:=X2.out.size;simp;omega) (fun q hq=>(HT.out.1.lt q hq).1)
    clear hown4 hg4 hbk
    go_wp2
    go_roundw
    case rel=>exact⟨j+1,ts++[(P,A3,c3)],by omega,by go_num,by rw [HBS.out],HX4,Lib.hid (by rw [HES.out,List.map_append,HM.out];rfl),HT4,by rw [List.length_append];simp;omega⟩
    case measure=>simp [intOf];omega
   ·rw [hk2] at d1
    rw [if_neg (by omega)] at HES
    have hk21:decide (n.kind=1)=false:=decide_eq_false (by omega)
    rw [hk21,Bool.false_or] at HBS
    have HTR:=Lib.hid (fun W=>trim_any n.text (⟨#[32,9,10,13]⟩:ByteArray) W htz (by decide) (by decide))
    have hbi:blankI n.text=setAll blankL n.text:=rfl
    clear HS hk21
    generalize blanksK v (ks.take j)=bb at *
    cases bb
    ·go_wp2
     go_roundw
     case rel=>exact⟨j+1,ts,by omega,by go_num,by rw [HBS.out];rfl,HB,Lib.hid (by rw [HES.out];exact HM.out),HT,by omega⟩
     case measure=>simp [intOf];omega
    ·cases hq:setAll blankL n.text
     ·have hne:Lib.trimS n.text.data.toList ((⟨#[32,9,10,13]⟩:ByteArray)).data.toList≠[]:=fun h=>by
       rw [trimS_nil] at h
       unfold setAll at hq
       rw [show blankL=((⟨#[32,9,10,13]⟩:ByteArray)).data.toList from rfl,h] at hq
       cases hq
      obtain⟨t,ht⟩:∃t:ByteArray,t=⟨(Lib.trimS n.text.data.toList ((⟨#[32,9,10,13]⟩:ByteArray)).data.toList).toArray⟩:=⟨_,rfl⟩
      have he:t.toList.isEmpty=false:=by
       rw [Lib.toList_data,ht]
       cases h:Lib.trimS n.text.data.toList ((⟨#[32,9,10,13]⟩:ByteArray)).data.toList with
       | nil=>exact absurd h hne
       | cons a l=>rfl
      rw [←ht] at HTR
      rw [hbi,hq] at HBS
      clear hq hne ht hbi
      go_wp2_with fail
      refine(HTR.out _).mono ?_
      rintro e2 w2 ⟨rfl,hb2⟩
      have X2:=Lib.hid (HB.out.trans (hb2.mono HB.out.size))
      have HT2:=Lib.hid (HT.out.ext hb2)
      clear hb2
      go_wp2
      go_roundw
      case rel=>exact⟨j+1,ts,by omega,by go_num,by rw [HBS.out];rfl,X2,Lib.hid (by rw [HES.out];exact HM.out),HT2,by omega⟩
      case measure=>simp [intOf];omega
     ·have hnil:Lib.trimS n.text.data.toList ((⟨#[32,9,10,13]⟩:ByteArray)).data.toList=[]:=(trimS_nil _ _).2 hq
      rw [hnil] at HTR
      rw [hbi,hq] at HBS
      clear hq hnil hbi
      go_wp2_with fail
      refine(HTR.out _).mono ?_
      rintro e2 w2 ⟨rfl,hb2⟩
      have X2:=Lib.hid (HB.out.trans (hb2.mono HB.out.size))
      have HT2:=Lib.hid (HT.out.ext hb2)
      clear hb2
      go_wp2
      go_roundw
      case rel=>exact⟨j+1,ts,by omega,by go_num,by rw [HBS.out];rfl,X2,Lib.hid (by rw [HES.out];exact HM.out),HT2,by omega⟩
      case measure=>simp [intOf];omega
  ·obtain rfl:j=ks.length:=by omega
   rw [List.take_length] at HM ⊢
   have HLE:=Lib.hid (own_le HT.out.1)
   have HEM:Hid (ts.map (·.1)=EL):=Lib.hid (by rw [HM.out,HEL.out])
   have HLN:Hid (ts.length=EL.length):=Lib.hid (by rw [←HEM.out,List.length_map])
   go_wp2
   go_ret2
   refine⟨A2,c2,ts,by rw [HBL.out,←HLN.out];rfl,by rw [←HLN.out];exact HLE.out,HEM.out,?_,HBW.out⟩
   rw [←HLN.out]
   refine⟨own_mono HT.out.1 X1.out.size,fun x hx=>?_⟩
   obtain⟨q1,q2,l,q3,q4,q5,q6⟩:=HT.out.2 x hx
   exact⟨q1,q2,l,q3,own_mono q4 X1.out.size,q5,fun i y hi=>⟨(q6 i y hi).1,fun h00=>by
    obtain⟨b',off',e1,e2,e3⟩:=(q6 i y hi).2 h00
    exact⟨b',off',e1,Nat.le_trans X1.out.size e2,e3⟩⟩⟩
end Go.Proofs.YtnfokaecobddkaaGreatDoor
end
section
namespace Go.Proofs.YtnfokaecobddkaaGreatDoor
def emS:StL:=⟨0,emB,emB,emB,emB,[]⟩
end Go.Proofs.YtnfokaecobddkaaGreatDoor
end
section
namespace Go.Proofs.YtnfokaecobddkaaGreatDoor
open Go.RowKit
set_option linter.unusedSimpArgs false
set_option linter.unusedVariables false
abbrev put6 (w:World) (g:Nat) (a b c d e f:Value):World:=
 (((((w.setCell ⟨g,0,none⟩ a).setCell ⟨g,1,none⟩ b).setCell ⟨g,2,none⟩ c).setCell ⟨g,3,none⟩ d).setCell ⟨g,4,none⟩ e).setCell ⟨g,5,none⟩ f
theorem put6_heap {w:World} {g:Nat} {a0 b0 c0 d0 e0 f0:Value} {t:TypeId} (h:w.heap[g]? = some (.cells #[a0,b0,c0,d0,e0,f0] t (0,0))) (a b c d e f:Value) :
  (put6 w g a b c d e f).heap[g]? = some (.cells #[a,b,c,d,e,f] t (0,0)):=
 heap_setCell_same _ g 5 _ _ _ (heap_setCell_same _ g 4 _ _ _ (heap_setCell_same _ g 3 _ _ _ (heap_setCell_same _ g 2 _ _ _ (heap_setCell_same _ g 1 _ _ _ (heap_setCell_same _ g 0 _ _ _ h)))))
theorem put6_other {w:World} {g k:Nat} (hne:k≠g) (a b c d e f:Value):(put6 w g a b c d e f).heap[k]? = w.heap[k]?:=by
 unfold put6
 rw [heap_setCell_other _ _ k _ hne,heap_setCell_other _ _ k _ hne,heap_setCell_other _ _ k _ hne,heap_setCell_other _ _ k _ hne,heap_setCell_other _ _ k _ hne,heap_setCell_other _ _ k _ hne]
theorem put6_below {B:Nat} {w w':World} (h:Below B w w') {g:Nat} (hg:B≤g) (a b c d e f:Value):Below B w (put6 w' g a b c d e f):=
 (((((h.setCell (p:=⟨g,0,none⟩) hg a).setCell (p:=⟨g,1,none⟩) hg b).setCell (p:=⟨g,2,none⟩) hg c).setCell (p:=⟨g,3,none⟩) hg d).setCell (p:=⟨g,4,none⟩) hg e).setCell (p:=⟨g,5,none⟩) hg f
theorem SAt.put {w:World} {g:Nat} {s:StL} {A:Option Addr} {c:Nat} (h:SAt w g s A c) (s':StL) (A':Option Addr) (c':Nat) :
  SAt (put6 w g (.int .u8 s'.kind) (.string s'.typ) (.string s'.id) (.string s'.frm) (.string s'.to) (.slice A' s'.load.length c')) g s' A' c':=by
 obtain⟨t,h⟩:=h
 exact⟨t,put6_heap h _ _ _ _ _ _⟩
theorem SAt.extB {B:Nat} {w w':World} {g:Nat} {s:StL} {A:Option Addr} {c:Nat} (h:SAt w g s A c) (hb:Below B w w') (hg:g < B):SAt w' g s A c:=by
 obtain⟨t,h⟩:=h
 exact⟨t,(hb.block g hg).trans h⟩
def NRow (w:World) (g:Nat) (n:NodeL) (A:Option Addr) (c:Nat):Prop:=∃t,w.heap[g]? = some (.cells #[.int .u8 n.kind,.string n.space,.string n.name,.slice A n.attrs.length c,.string n.text,.int .i64 n.many] t (0,0))
section
variable {w w':World} {g:Nat} {n:NodeL} {A:Option Addr} {c:Nat}
theorem NRow.c0 (h:NRow w g n A c):w.cell? ⟨g,0,none⟩=some (.int .u8 n.kind):=by obtain⟨t,h⟩:=h;simp [World.cell?,h]
theorem NRow.c1 (h:NRow w g n A c):w.cell? ⟨g,1,none⟩=some (.string n.space):=by obtain⟨t,h⟩:=h;simp [World.cell?,h]
theorem NRow.c2 (h:NRow w g n A c):w.cell? ⟨g,2,none⟩=some (.string n.name):=by obtain⟨t,h⟩:=h;simp [World.cell?,h]
theorem NRow.lt (h:NRow w g n A c):g < w.heap.size:=by obtain⟨t,h⟩:=h;exact(Array.getElem?_eq_some_iff.1 h).1
theorem NRow.ext (h:NRow w g n A c) (hb:Below w.heap.size w w'):NRow w' g n A c:=by obtain⟨t,h⟩:=h;exact⟨t,heap_ext h hb⟩
theorem NRow.new (w:World) (t:TypeId) (n:NodeL) (A:Option Addr) (c:Nat):NRow (w.alloc (.cells #[.int .u8 n.kind,.string n.space,.string n.name,.slice A n.attrs.length c,.string n.text,.int .i64 n.many] t)) w.heap.size n A c:=⟨t,heap_alloc_new w _⟩
end
section
variable {ops:Array Oper} {w0:World} {Fin:List Ty→Prop} {rest:List Oper} {E:Env} {Ts:List Ty} {o:Oper}
set_option maxRecDepth 10000 in
theorem tw_ldN {x:Operand} {g:Nat} {n:NodeL} {A:Option Addr} {c:Nat} (hop:o.op=.load 69 x) (hE:evalE E x=some (.pointer (some ⟨g,0,none⟩))) (hc:∀W,Ext w0 W→NRow W g n A c) (hw:Wd ops o E true)
  (hr:wpT Tryz.prog ops w0 Fin rest (E.put o.dst (.inl (encN n A c))) (.inl (encN n A c) :: Ts)):wpT Tryz.prog ops w0 Fin (o :: rest) E Ts:=
 tw_pure (encN n A c) hw (fun a W hW hs=>by
  have h1:a.eval x=.pointer (some ⟨g,0,none⟩):=evalE_of hE (by rw [hop];simp [Op.operands]) hs
  obtain⟨t,h2⟩:=hc W hW
  have h3:=run_loadVar_row (P:=Tryz.prog) W g t 69 _ (0,0) _ h2 Tryz.underlying69 rfl (by kernel_rfl)
  unfold execOp
  have h4:(Instr.sureAddr (.pointer (some ⟨g,0,none⟩))).run Tryz.prog W=.ok ⟨g,0,none⟩ W:=by first|rfl|(go_simp;done)|(simp [Instr.sureAddr,asAddr];done)
  simp only [hop,h1,Instr.loadAt,Sem.run_bind,Sem.run_pure,Result.andThen_ok,h4,h3]
  rfl) hr
end
end Go.Proofs.YtnfokaecobddkaaGreatDoor
end
section
namespace Go.Proofs.YtnfokaecobddkaaGreatDoor
open Go.RowKit
set_option linter.unusedSimpArgs false
set_option linter.unusedVariables false
end Go.Proofs.YtnfokaecobddkaaGreatDoor
end
section
namespace Go.Proofs.YtnfokaecobddkaaGreatDoor
def manyM (n:NodeL) (k:Int):NodeL:=⟨n.kind,n.space,n.name,n.attrs,n.text,k⟩
def textT (v:List NodeL):Bool:=decide (v.length=1) && decide ((nodeAt v 0).kind=2) && nodeI (nodeAt v 0)
def partOK (v:List NodeL):Bool:=textT v || treeI v
def joinV (n:NodeL) (l:List (List NodeL)):List NodeL:=manyM n l.length :: l.flatten
def putE (n:NodeL) (l:List (List NodeL)):Int:=
 if treeI [manyM n 0] then(if l.any (fun v=>!partOK v) then 8 else if 512 < (joinV n l).length then 4 else if treeI (joinV n l) then 0 else 8) else 8
def putV (n:NodeL) (l:List (List NodeL)):List NodeL:=if putE n l=0 then joinV n l else []
theorem manyM_sz {n:NodeL} {M:Nat} {k:Int} (h:SzN M n) (h0:-9223372036854775808≤k) (h1:k≤9223372036854775807):SzN M (manyM n k):=⟨h.1,h.2.1,h.2.2.1,h.2.2.2.1,h.2.2.2.2.1,h0,h1⟩
theorem putE_ne (n:NodeL) (l:List (List NodeL)) (h:putE n l≠0):putV n l=[]:=by unfold putV;rw [if_neg h]
theorem putE_0 {n:NodeL} {l:List (List NodeL)} (h:treeI [manyM n 0]=false):putE n l=8:=by unfold putE;rw [h];rfl
theorem putE_1 {n:NodeL} {l:List (List NodeL)} (h:treeI [manyM n 0]=true) (h1:l.any (fun v=>!partOK v)=true):putE n l=8:=by unfold putE;rw [h,h1];rfl
theorem putE_2 {n:NodeL} {l:List (List NodeL)} (h:treeI [manyM n 0]=true) (h1:l.any (fun v=>!partOK v)=false) (h2:512 < (joinV n l).length):putE n l=4:=by unfold putE;rw [h,h1,if_pos rfl,if_neg (by decide),if_pos h2]
theorem putE_3 {n:NodeL} {l:List (List NodeL)} (h:treeI [manyM n 0]=true) (h1:l.any (fun v=>!partOK v)=false) (h2:¬512 < (joinV n l).length):putE n l=if treeI (joinV n l) then 0 else 8:=by unfold putE;rw [h,h1,if_pos rfl,if_neg (by decide),if_neg h2]
theorem joinV_len (n:NodeL) (l:List (List NodeL)):(joinV n l).length=1+l.flatten.length:=by unfold joinV;rw [List.length_cons];omega
def laidK (n:NodeL) (l:List (List NodeL)) (k:Nat):List NodeL:=manyM n l.length :: (l.take k).flatten
theorem laidK_len (n:NodeL) (l:List (List NodeL)) (k:Nat):(laidK n l k).length=1+(l.take k).flatten.length:=by unfold laidK;rw [List.length_cons];omega
theorem laidK_succ (n:NodeL) (l:List (List NodeL)) {k:Nat} {v:List NodeL} (h:l[k]? = some v):laidK n l (k+1)=laidK n l k++v:=by
 unfold laidK
 rw [List.take_add_one,h,Option.toList_some,List.flatten_append,List.flatten_cons,List.flatten_nil,List.append_nil,List.cons_append]
theorem laidK_all (n:NodeL) (l:List (List NodeL)):laidK n l l.length=joinV n l:=by unfold laidK joinV;rw [List.take_length]
theorem laidK_le (n:NodeL) (l:List (List NodeL)) (k:Nat):(laidK n l k).length≤(joinV n l).length:=by
 rw [laidK_len,joinV_len]
 have h:l.flatten.length=(l.take k).flatten.length+(l.drop k).flatten.length:=by rw [←List.length_append,←List.flatten_append,List.take_append_drop]
 omega
theorem joinV_sz {n:NodeL} {l:List (List NodeL)} (hn:SzN 1000000000 n) (hl:l.length≤1000000000) (hv:∀v∈l,∀x∈v,SzN 1000000000 x):∀x∈joinV n l,SzN 1000000000 x:=fun x hx=>by
 unfold joinV at hx
 rcases List.mem_cons.1 hx with rfl|hx
 ·exact manyM_sz hn (by omega) (by omega)
 ·obtain⟨v,h1,h2⟩:=List.mem_flatten.1 hx
  exact hv v h1 x h2
end Go.Proofs.YtnfokaecobddkaaGreatDoor
end
section
namespace Go.Proofs.YtnfokaecobddkaaGreatDoor
open Go.RowKit
set_option linter.unusedSimpArgs false
set_option linter.unusedVariables false
theorem one_of {v:List NodeL} (h:v.length=1):∃n,v=[n]:=by
 cases v with
 | nil=>simp at h
 | cons n t=>cases t with
  | nil=>exact⟨n,rfl⟩
  | cons _ _=>simp at h
set_option maxHeartbeats 1000000 in
set_option maxRecDepth 10000 in
theorem put1_any (v:List NodeL) (A:Option Addr) (c:Nat) (w:World) (hz:SzV 1000000000 v) (hr:RdV w w.heap.size A v) :
  Calls Tryz.prog 67 (#[.slice A v.length c]++#[]) w fun e w'=>e=.returned (.bool (textT v))∧Below w.heap.size w w':=by
 rw [Array.append_empty]
 by_cases h1:v.length=1
 ·obtain⟨n,rfl⟩:=one_of h1
  have HT:Box (textT [n]=(decide (n.kind=2) && nodeI n)):=⟨by unfold textT nodeAt;simp⟩
  have HM:=Lib.hid (fun A' c' W h1 h2=>may_node n A' c' W h1 h2 (hz.2 n (List.mem_singleton.2 rfl)))
  obtain⟨b,off,rfl,hb,hcc⟩:=hr (by simp)
  obtain⟨d0,d1,d2,⟨A',c',d3,hl,hA⟩,d4,d5⟩:=hcc 0 n rfl
  rw [Nat.zero_mul,Nat.add_zero] at d0 d1 d2 d3 d4 d5
  have HM:=Lib.hid (HM.out A' c' w hA hl)
  clear hcc hz hr hl hA
  generalize textT [n]=r at *
  generalize nodeI n=q at *
  unfold encN at HM
  rw [h1]
  by_cases hk:n.kind=2
  ·have hk':(n.kind == 2)=true:=by rw [beq_iff_eq];exact hk
   have HR:Box (r=q):=⟨by rw [HT.out,decide_eq_true hk,Bool.true_and]⟩
   clear hk HT
   go_enter Tryz.func67,Tryz.ntmps67
   go_wp2_with fail
   refine HM.out.mono ?_
   rintro e w1 ⟨rfl,hb1⟩
   go_wp2
   go_ret
   exact⟨ret_bool HR.out.symm,hb1⟩
  ·have hk':(n.kind == 2)=false:=by rw [beq_eq_false_iff_ne];exact hk
   have HR:Box (r=false):=⟨by rw [HT.out,decide_eq_false hk,Bool.false_and]⟩
   clear hk HT
   go_enter Tryz.func67,Tryz.ntmps67
   go_wp2
   go_ret
   exact⟨ret_bool HR.out.symm,Below.refl _ _⟩
 ·have HT:Box (textT v=false):=⟨by unfold textT;rw [decide_eq_false h1];rfl⟩
  have h1':((v.length:Int) == 1)=false:=by rw [beq_eq_false_iff_ne];omega
  generalize textT v=r at *
  generalize v.length=N at *
  clear hr hz h1
  go_enter Tryz.func67,Tryz.ntmps67
  go_wp2
  go_ret
  exact⟨ret_bool HT.out.symm,Below.refl _ _⟩
set_option maxHeartbeats 1000000 in
set_option maxRecDepth 10000 in
theorem put2_any (v:List NodeL) (A:Option Addr) (c B:Nat) (w:World) (hc:v.length≤c) (hz:SzV 1000000000 v) (hr:RdV w w.heap.size A v) (hB:w.cell? ⟨B,0,none⟩=some (.func (.func 67) #[] #[])) :
  Calls Tryz.prog 69 (#[.slice A v.length c]++#[.pointer (some ⟨B,0,none⟩)]) w fun e w'=>e=.returned (.bool (!partOK v))∧Below w.heap.size w w':=by
 have HP:Box (partOK v=(textT v || treeI v)):=⟨rfl⟩
 have H1:=Lib.hid (put1_any v A c w hz hr)
 have H2:=Lib.hid (fun W (hW:Below w.heap.size w W)=>behind_any v A c W hc hz ((hr.below hW (Nat.le_refl _)).more hW.size))
 have hq:=fun W a n m=>eql_nil (P:=Tryz.prog) W 121 3 a n m Tryz.underlying121
 have eg:=enters_of (P:=Tryz.prog) Tryz.func67 (by kernel_rfl) rfl
 unfold BehPost at H2
 clear hr hz hc
 generalize partOK v=r at *
 generalize treeI v=t at *
 rw [Array.append_empty] at H1
 rw [List.append_toArray,List.singleton_append]
 cases hx:textT v
 ·rw [hx] at H1 HP
  clear hx
  generalize v.length=N at *
  go_enter Tryz.func69,Tryz.ntmps69
  go_wp2_with fail
  refine H1.out.mono ?_
  rintro e w1 ⟨rfl,hb1⟩
  have X1:=Lib.hid hb1
  clear hb1
  go_wp2_with fail
  refine(H2.out w1 X1.out).mono ?_
  rintro e w2 ⟨hb,⟨ht,rfl⟩|⟨ht,g,es,rfl,-⟩⟩
  all_goals
   have X:=Lib.hid (X1.out.trans (hb.mono X1.out.size))
   have HT:=Lib.hid ht
   clear hb ht
   go_wp2
   go_ret
   exact⟨ret_bool (by rw [HP.out,HT.out];rfl),X.out⟩
 ·rw [hx] at H1 HP
  clear hx
  generalize v.length=N at *
  go_enter Tryz.func69,Tryz.ntmps69
  go_wp2_with fail
  refine H1.out.mono ?_
  rintro e w1 ⟨rfl,hb1⟩
  have X1:=Lib.hid hb1
  clear hb1
  go_wp2
  go_ret
  exact⟨ret_bool (by rw [HP.out];rfl),X1.out⟩
end Go.Proofs.YtnfokaecobddkaaGreatDoor
end
section
namespace Go.Proofs.YtnfokaecobddkaaGreatDoor
open Go.RowKit
set_option linter.unusedSimpArgs false
set_option linter.unusedVariables false
theorem rdv_one {W:World} {n:NodeL} {A:Option Addr} {c g B:Nat} {t:TypeId} (h:W.heap[g]? = some (.cells #[.int .u8 n.kind,.string n.space,.string n.name,.slice A n.attrs.length c,.string n.text,.int .i64 n.many] t (0,0))) (hg:g < B) (hA:RdA W B A n.attrs) (hc:n.attrs.length≤c):RdV W B (some ⟨g,0,none⟩) [n]:=fun _=>by
 refine⟨g,0,rfl,hg,fun i m hi=>?_⟩
 cases i with
 | succ i=>simp at hi
 | zero=>
  simp only [List.getElem?_cons_zero,Option.some.injEq] at hi
  subst hi
  rw [Nat.zero_mul,Nat.add_zero]
  refine⟨?_,?_,?_,⟨A,c,?_,hc,hA⟩,?_,?_⟩ <;> simp [World.cell?,h]
def PutPost (n:NodeL) (l:List (List NodeL)) (w:World) (e:Ending) (w':World):Prop:=
 ∃A c,e=.returned (.tuple #[.slice A (putV n l).length c,.int .i64 (putE n l)])∧(putV n l).length≤c∧NewV w.heap.size w' A c (putV n l)∧Below w.heap.size w w'
theorem NewV.nil (base:Nat) (w:World):NewV base w none 0 []:=⟨[],rfl,World.ownsRow_nil _ _ _ _,fun i x hi=>by simp at hi⟩
theorem PutPost.no {n:NodeL} {l:List (List NodeL)} {w w':World} {q:Int} (h:Below w.heap.size w w') (he:putE n l=q) (hq:q≠0):PutPost n l w (.returned (.tuple #[.slice none 0 0,.int .i64 q])) w':=by
 have hv:putV n l=[]:=putE_ne n l (by omega)
 unfold PutPost
 rw [hv,he]
 exact⟨none,0,rfl,Nat.le_refl _,NewV.nil _ _,h⟩
theorem HeldA.below {w w':World} {B C:Nat} {l:List NodeH} (h:HeldA w B l) (hb:Below C w w') (hC:B≤C):HeldA w' B l:=fun i x hi=>⟨(h i x hi).1,(h i x hi).2.below hb hC⟩
theorem HeldA.more {w:World} {B B':Nat} {l:List NodeH} (h:HeldA w B l) (hB:B≤B'):HeldA w B' l:=fun i x hi=>⟨(h i x hi).1,(h i x hi).2.more hB⟩
theorem HeldA.app {w:World} {B:Nat} {l m:List NodeH} (h:HeldA w B l) (k:HeldA w B m):HeldA w B (l++m):=fun i x hi=>by
 rcases Nat.lt_or_ge i l.length with h1|h1
 ·rw [List.getElem?_append_left h1] at hi;exact h i x hi
 ·rw [List.getElem?_append_right h1] at hi;exact k _ x hi
set_option maxHeartbeats 4000000 in
set_option maxRecDepth 10000 in
theorem put_node (n:NodeL) (A:Option Addr) (c:Nat) (l:List (List NodeL)) (Al:Option Addr) (cl:Nat) (w:World) (hn:SzN 1000000000 n) (hr:RdA w w.heap.size A n.attrs) (hc:n.attrs.length≤c) (hz:SzW l) (hl:RdW w w.heap.size Al l) :
  Calls Tryz.prog 27 #[encN n A c,.slice Al l.length cl] w (PutPost n l w):=by
 obtain⟨W1,hW1⟩:∃W1,W1=w.alloc (.cells #[.int .u8 n.kind,.string n.space,.string n.name,.slice A n.attrs.length c,.string n.text,.int .i64 0] 69):=⟨_,rfl⟩
 have hX1:Below w.heap.size w W1:=by rw [hW1];exact(Below.refl _ _).alloc (Nat.le_refl _) _
 have hs1:W1.heap.size=w.heap.size+1:=by rw [hW1];simp
 have hN1:W1.heap[w.heap.size]? = some (.cells #[.int .u8 n.kind,.string n.space,.string n.name,.slice A n.attrs.length c,.string n.text,.int .i64 0] 69 (0,0)):=by
  rw [hW1];exact heap_alloc_new w _
 obtain⟨W2,hW2⟩:∃W2,W2=W1.alloc (.cells #[.int .u8 n.kind,.string n.space,.string n.name,.slice A n.attrs.length c,.string n.text,.int .i64 0] 69):=⟨_,rfl⟩
 have hX2':Below W1.heap.size W1 W2:=by rw [hW2];exact(Below.refl _ _).alloc (Nat.le_refl _) _
 have hX2:Below w.heap.size w W2:=hX1.trans (hX2'.mono hX1.size)
 have hN2:W2.heap[w.heap.size]? = some (.cells #[.int .u8 n.kind,.string n.space,.string n.name,.slice A n.attrs.length c,.string n.text,.int .i64 0] 69 (0,0)):=heap_ext hN1 hX2'
 have hM2:W2.heap[w.heap.size+1]? = some (.cells #[.int .u8 n.kind,.string n.space,.string n.name,.slice A n.attrs.length c,.string n.text,.int .i64 0] 69 (0,0)):=by
  rw [hW2,←hs1];exact heap_alloc_new W1 _
 have hs2:W2.heap.size=w.heap.size+2:=by rw [hW2];simp [hs1]
 have hz1:SzV 1000000000 [manyM n 0]:=⟨by show 1≤_;omega,fun x hx=>by rw [List.mem_singleton.1 hx];exact manyM_sz hn (by omega) (by omega)⟩
 have H1:=Lib.hid (behind_any [manyM n 0] (some ⟨w.heap.size+1,0,none⟩) 1 W2 (Nat.le_refl _) hz1 (rdv_one (n:=manyM n 0) hM2 (by omega) ((hr.below hX2 (Nat.le_refl _)).more hX2.size) hc))
 unfold BehPost at H1
 have hL1:([manyM n 0]:List NodeL).length=1:=rfl
 rw [hL1] at H1
 have hq:=fun W a n m=>eql_nil (P:=Tryz.prog) W 121 3 a n m Tryz.underlying121
 have HN2:=Lib.hid hN2
 have HX2:=Lib.hid hX2
 have HS2:=Lib.hid hs2
 have HW:=Lib.hid (show W2=_ from hW2.trans (by rw [hW1]))
 have HR:=Lib.hid hr
 have HRL:=Lib.hid hl
 have HZL:=Lib.hid hz
 have HZN:=Lib.hid hn
 have HC:=Lib.hid hc
 have hll:=hz.1
 clear hW1 hX1 hs1 hN1 hW2 hX2' hX2 hN2 hM2 hz1 hL1 hr hl hz hn hs2
 unfold encN
 go_enter Tryz.func27,Tryz.ntmps27
 go_wp2_with fail
 rw [←HW.out]
 refine H1.out.mono ?_
 rintro e w1 ⟨hb,⟨ht,rfl⟩|⟨ht,g,es,rfl,-⟩⟩
 ·have X1:=Lib.hid (HX2.out.trans (hb.mono HX2.out.size))
  have HE:=Lib.hid (putE_0 (l:=l) ht)
  clear hb ht
  go_wp2
  go_ret2
  exact PutPost.no X1.out HE.out (by decide)
 ·have X1:=Lib.hid (HX2.out.trans (hb.mono HX2.out.size))
  have HT:=Lib.hid ht
  have HS1:=Lib.hid hb.size
  have HN1:=Lib.hid (heap_ext HN2.out hb)
  obtain⟨W3,hW3⟩:∃W3,W3=w1.alloc (.cells #[.func (.func 67) #[] #[]] 74):=⟨_,rfl⟩
  have hX3':Below w1.heap.size w1 W3:=by rw [hW3];exact(Below.refl _ _).alloc (Nat.le_refl _) _
  have hX3:Below w.heap.size w W3:=X1.out.trans (hX3'.mono X1.out.size)
  have hB3:W3.heap[w1.heap.size]? = some (.cells #[.func (.func 67) #[] #[]] 74 (0,0)):=by rw [hW3];exact heap_alloc_new w1 _
  have eg:=enters_of (P:=Tryz.prog) Tryz.func69 (by kernel_rfl) rfl
  have H2:=Lib.hid (hasT_any 69 #[.pointer (some ⟨w1.heap.size,0,none⟩)] Al cl l (fun v=>!partOK v) W3 (RdW.ext HRL.out hX3) HZL.out.1 eg
   (fun W i x A' c' hW hx hl' hA'=>(put2_any x A' c' w1.heap.size W hl' (HZL.out.2 x (List.mem_of_getElem? hx)) ((hA'.below hW (Nat.le_refl _)).more hW.size) (by simp [World.cell?,heap_ext hB3 hW])).mono fun e w' h=>⟨h.1,hW.trans (h.2.mono hW.size)⟩))
  have HX3:=Lib.hid hX3
  have HN3:=Lib.hid (heap_ext HN1.out hX3')
  have HW3:=Lib.hid hW3
  clear hb ht hX3' hX3 hB3 eg hW3
  cases hany:l.any (fun v=>!partOK v)
  ·rw [hany] at H2
   have HA:=Lib.hid hany
   clear hany
   go_wp2_with fail
   rw [←HW3.out]
   refine H2.out.mono ?_
   rintro e w2 ⟨rfl,hb2⟩
   have HX4:=Lib.hid (HX3.out.trans (hb2.mono HX3.out.size))
   have HN4:=Lib.hid (heap_ext HN3.out hb2)
   have hlt4:w.heap.size < w2.heap.size:=(Array.getElem?_eq_some_iff.1 HN4.out).1
   clear hb2
   have c0:w2.cell? ⟨w.heap.size,0,none⟩=some (.int .u8 n.kind):=by simp [World.cell?,HN4.out]
   have c1:w2.cell? ⟨w.heap.size,1,none⟩=some (.string n.space):=by simp [World.cell?,HN4.out]
   have c2:w2.cell? ⟨w.heap.size,2,none⟩=some (.string n.name):=by simp [World.cell?,HN4.out]
   have c3:w2.cell? ⟨w.heap.size,3,none⟩=some (.slice A n.attrs.length c):=by simp [World.cell?,HN4.out]
   have c4:w2.cell? ⟨w.heap.size,4,none⟩=some (.string n.text):=by simp [World.cell?,HN4.out]
   have c5:w2.cell? ⟨w.heap.size,5,none⟩=some (.int .i64 0):=by simp [World.cell?,HN4.out]
   have f5:=frozen_of_row w2 w.heap.size 5 _ _ HN4.out
   obtain⟨W5,hW5⟩:∃W5,W5=w2.setCell ⟨w.heap.size,5,none⟩ (.int .i64 (l.length:Int)):=⟨_,rfl⟩
   obtain⟨W6,hW6⟩:∃W6,W6=W5.alloc (.cells #[.int .u8 n.kind,.string n.space,.string n.name,.slice A n.attrs.length c,.string n.text,.int .i64 (l.length:Int)] 69):=⟨_,rfl⟩
   have hs5:W5.heap.size=w2.heap.size:=by rw [hW5];simp [World.setCell]
   have hX5:Below w.heap.size w W5:=by rw [hW5];exact HX4.out.setCell (p:=⟨w.heap.size,5,none⟩) (Nat.le_refl _) _
   have HX6:Hid (Below w.heap.size w W6):=by rw [hW6];exact Lib.hid (hX5.alloc hX5.size _)
   have HO6:Hid (W6.ownsRow w.heap.size 69 6 (.slice (some ⟨w2.heap.size,0,none⟩) 1 1) 1 (cellsN [(manyM n l.length,A,c)])):=by
    rw [hW6,←hs5]
    exact Lib.hid (World.ownsRow_lit W5 #[.int .u8 n.kind,.string n.space,.string n.name,.slice A n.attrs.length c,.string n.text,.int .i64 (l.length:Int)] 1 (by omega) (by decide) rfl)
   have HW6:=Lib.hid (hW6.trans (by rw [hW5]))
   clear hW5 hs5 hX5 hW6
   go_wp2
   rw [←HW6.out]
   go_loopw [7,9,26] (fun s7 _ s26 wr=>∃(k:Nat) (hs:List NodeH),k≤l.length∧s26=.int .i64 k∧Hid (Below w.heap.size w wr)∧Hid (wr.ownsRow w.heap.size 69 6 s7 hs.length (cellsN hs))∧Hid (hs.map (·.1)=laidK n l k)∧Hid (HeldA w w.heap.size hs)∧hs.length≤512) (fun _ _ s26 _=>l.length - (intOf s26).toNat)
   case atStart=>exact⟨0,[(manyM n l.length,A,c)],Nat.zero_le _,rfl,HX6,HO6,Lib.hid rfl,Lib.hid (fun i x hi=>by
    cases i with
    | succ i=>simp at hi
    | zero=>
     simp only [List.getElem?_cons_zero,Option.some.injEq] at hi
     subst hi
     exact⟨HC.out,HR.out⟩),by simp⟩
   case round=>
    obtain⟨k,hs,hk,rfl,HB,HO,HM,HH,hlen⟩:=hrel
    obtain⟨A7,c7,rfl⟩:=own_form HO.out
    by_cases hlt:k < l.length
    ·obtain⟨v,hv⟩:∃v,l[k]? = some v:=⟨_,List.getElem?_eq_getElem hlt⟩
     have HV:=Lib.hid hv
     have hzv:=(HZL.out.2 v (List.mem_of_getElem? hv)).1
     obtain⟨b,off,rfl,hb,hcc⟩:=HRL.out (by omega)
     obtain⟨A',c',d0,hl',hA'⟩:=hcc k v hv
     have e0:=(HB.out.cell (p:=⟨b,off+k,none⟩) hb).trans d0
     obtain⟨m,hm,hrd,hheld⟩:=rdv_rd hA'
     have HRD:=Lib.hid (hrd.below HB.out (Nat.le_refl _))
     have HHD:=Lib.hid hheld
     have HMM:=Lib.hid hm
     have hBs:=HB.out.size
     clear hv hcc d0 hl' hA' hm hrd hheld
     go_wp2_with (at_builtin;refine app_nodes rfl _ _ rfl w.heap.size _ hs.length hs rfl HO.out _ _ _ _ m rfl HRD.out (by omega) (by omega) ?_)
     intro v4 w4 hown4 hg4 hbk
     obtain⟨A8,c8,rfl⟩:=own_form hown4
     have HX8:Hid (Below w.heap.size w w4):=Lib.hid (HB.out.grown hg4 HB.out.size (fun q hq=>(HO.out.lt q hq).1))
     have HO8:=Lib.hid hown4
     clear hown4 hg4 hbk
     have HMV:Hid ((hs++m).map (·.1)=laidK n l (k+1)):=Lib.hid (by rw [List.map_append,HM.out,HMM.out,←laidK_succ n l HV.out])
     have HLE:Hid ((hs++m).length=hs.length+v.length):=Lib.hid (by rw [List.length_append,←HMM.out,List.length_map])
     by_cases h512:512 < hs.length+v.length
     ·have HE:=Lib.hid (putE_2 HT.out HA.out (Nat.lt_of_lt_of_le (by rw [←HMV.out,List.length_map,HLE.out];exact h512) (laidK_le n l (k+1))))
      generalize hs.length+v.length=M at *
      have h512':(512:Int) < (M:Int):=by omega
      go_wp2
      go_ret2
      exact PutPost.no HX8.out HE.out (by decide)
     ·have HO9:=HO8
      rw [←HLE.out] at HO9
      have HL9:Hid ((hs++m).length≤512):=Lib.hid (by rw [HLE.out];omega)
      have h512':¬(512:Int) < ((hs.length+v.length:Nat):Int):=by omega
      rw [←HLE.out] at h512'
      rw [←HLE.out]
      generalize hQ:(hs++m).length=M at *
      have HQ:=Lib.hid hQ
      clear hQ
      go_wp2
      go_roundw
      case rel=>exact⟨k+1,hs++m,by omega,by go_num,HX8,by rw [HQ.out];exact HO9,HMV,HHD.out |> fun h=>Lib.hid (HH.out.app h),by rw [HQ.out];exact HL9.out⟩
      case measure=>simp [intOf];omega
    ·obtain rfl:k=l.length:=by omega
     have hJ:hs.map (·.1)=joinV n l:=HM.out.trans (laidK_all n l)
     have hJL:(joinV n l).length=hs.length:=by rw [←hJ,List.length_map]
     have hrv:RdV wr wr.heap.size A7 (joinV n l):=by
      rw [←hJ]
      exact rd_rdv (Rd.of_own HO.out) ((HH.out.below HB.out (Nat.le_refl _)).more HB.out.size)
     have hle:hs.length≤c7:=own_le HO.out
     have hzj:SzV 1000000000 (joinV n l):=⟨by omega,joinV_sz HZN.out HZL.out.1 (fun v hv x hx=>(HZL.out.2 v hv).2 x hx)⟩
     have HCK:=Lib.hid (tcheck_any (joinV n l) A7 c7 wr (by omega) hzj hrv)
     have HTW:=Lib.hid (fun W (hW:Below wr.heap.size wr W)=>twin_any A7 c7 (joinV n l) W ((hrv.below hW (Nat.le_refl _)).more hW.size) hzj)
     have HE3:=Lib.hid (putE_3 HT.out HA.out (show ¬512 < (joinV n l).length by omega))
     have HTE:Box (treeErr (joinV n l)=if treeI (joinV n l) then 0 else 8):=⟨rfl⟩
     unfold TwinPost at HTW
     have HVV:Hid (putE n l=0→putV n l=joinV n l):=Lib.hid (fun h=>by unfold putV;rw [if_pos h])
     have HJL:=Lib.hid hJL
     rw [hJL] at HCK HTW
     generalize hNN:hs.length=N at *
     clear hJ hJL hrv hle hzj hNN
     generalize treeErr (joinV n l)=q at *
     cases ht:treeI (joinV n l)
     all_goals
      rw [ht] at HTE HE3
      have hte:=HTE.out
      try simp only [Bool.false_eq_true,if_false] at hte HE3
      try simp only [if_true] at hte HE3
      subst hte
      clear HTE ht
      go_wp2_with fail
      refine HCK.out.mono ?_
      rintro e w5 ⟨rfl,hb5⟩
      have HX5:=Lib.hid (HB.out.trans (hb5.mono HB.out.size))
      have HY5:=Lib.hid hb5
      clear hb5
     ·go_wp2
      go_ret2
      exact PutPost.no HX5.out HE3.out (by decide)
     ·go_wp2_with fail
      refine(HTW.out _ HY5.out).mono ?_
      rintro e w6 ⟨A9,c9,rfl,hl9,hn9,hb9⟩
      have HX9:=Lib.hid (HX5.out.trans (hb9.mono HX5.out.size))
      have HN9:=Lib.hid (hn9.mono HX5.out.size)
      have HL9:=Lib.hid hl9
      clear hb9 hn9 hl9
      go_wp2
      go_ret2
      unfold PutPost
      rw [HVV.out HE3.out,HE3.out,HJL.out]
      exact⟨A9,c9,rfl,HL9.out,HN9.out,HX9.out⟩
  ·rw [hany] at H2
   have HE:=Lib.hid (putE_1 HT.out hany)
   clear hany
   go_wp2_with fail
   rw [←HW3.out]
   refine H2.out.mono ?_
   rintro e w2 ⟨rfl,hb2⟩
   have HX4:=Lib.hid (HX3.out.trans (hb2.mono HX3.out.size))
   clear hb2
   go_wp2
   go_ret2
   exact PutPost.no HX4.out HE.out (by decide)
end Go.Proofs.YtnfokaecobddkaaGreatDoor
end
section
namespace Go.Proofs.YtnfokaecobddkaaGreatDoor
open Go.RowKit
set_option linter.unusedSimpArgs false
set_option linter.unusedVariables false
end Go.Proofs.YtnfokaecobddkaaGreatDoor
end
section
namespace Go.Proofs.YtnfokaecobddkaaGreatDoor
open Go.RowKit
set_option linter.unusedSimpArgs false
set_option linter.unusedVariables false
def withA (l:List AttrL) (name value:ByteArray):List AttrL:=if isEmp value then l else l++[⟨emB,name,value⟩]
theorem withA_len (l:List AttrL) (name value:ByteArray):(withA l name value).length≤l.length+1:=by unfold withA;split <;> simp
def attrsS (s:StL):List AttrL:=withA (withA (withA (withA [] (⟨#[116,121,112,101]⟩:ByteArray) s.typ) (⟨#[105,100]⟩:ByteArray) s.id) (⟨#[102,114,111,109]⟩:ByteArray) s.frm) (⟨#[116,111]⟩:ByteArray) s.to
def elemS (s:StL):NodeL:=⟨1,(⟨#[106,97,98,98,101,114,58,99,108,105,101,110,116]⟩:ByteArray),wordI s.kind,attrsS s,emB,0⟩
theorem withA_sz {l:List AttrL} {name value:ByteArray} {M:Nat} (h:∀a∈l,SzA M a) (h1:name.size≤M) (h2:value.size≤M):∀a∈withA l name value,SzA M a:=fun a ha=>by
 unfold withA at ha
 split at ha
 ·exact h a ha
 ·rcases List.mem_append.1 ha with h3|h3
  ·exact h a h3
  ·rw [List.mem_singleton.1 h3]
   exact⟨Nat.zero_le _,h1,h2⟩
end Go.Proofs.YtnfokaecobddkaaGreatDoor
end
section
namespace Go.Proofs.YtnfokaecobddkaaGreatDoor
open Go.RowKit
set_option linter.unusedSimpArgs false
set_option linter.unusedVariables false
theorem results_one {P:Program} {fn:Func} {p:Tmp} {ty:TypeId} {fs:Array Field} (h:fn.results=#[.cell p ty]) (tmps:Array Value) (w:World) (g:Nat) (t:TypeId) (cs:Array Value) (fr:Nat×Nat)
  (hp:tmps.getD p undef=.pointer (some ⟨g,0,none⟩)) (hg:w.heap[g]? = some (.cells cs t fr)) (hu:P.underlying ty=some (.struct fs)) (hi:(P.info? ty).map (·.size)=some cs.size) :
  (results fn tmps).run P w=.ok (.agg cs) w:=by
 have hp':tmps[p]?.getD undef=.pointer (some ⟨g,0,none⟩):=by simpa using hp
 simp [results,h,hp',asAddr,run_loadVar_row w g t ty cs fr (.struct fs) hg hu rfl hi]
def pairsT (ps:List ByteArray):Nat→List AttrL
 | 0=>[]
 | k+1=>withA (pairsT ps k) (ps.getD (2*k) emB) (ps.getD (2*k+1) emB)
theorem pairsT_len (ps:List ByteArray):∀k,(pairsT ps k).length≤k
 | 0=>Nat.le_refl _
 | k+1=>Nat.le_trans (withA_len _ _ _) (by have:=pairsT_len ps k;omega)
def mkN (space name:ByteArray) (l:List AttrL):NodeL:=⟨1,space,name,l,emB,0⟩
def ElemE (space name:ByteArray) (l:List AttrL) (w:World) (e:Ending) (w':World):Prop:=
 ∃A c,e=.returned (encN (mkN space name l) A c)∧l.length≤c∧NewA w.heap.size w'.heap.size w' A l∧Below w.heap.size w w'
theorem elemE_mk {space name:ByteArray} {l:List AttrL} {w w' w'':World} {A:Option Addr} {c:Nat} (h0:w''=w') (h1:l.length≤c) (h2:NewA w.heap.size w''.heap.size w'' A l) (h3:Below w.heap.size w w''):ElemE space name l w (.returned (encN (mkN space name l) A c)) w':=by
 subst h0
 exact⟨A,c,rfl,h1,h2,h3⟩
def nodeC (space name:ByteArray) (v:Value):Array Value:=#[.int .u8 1,.string space,.string name,v,.string ⟨#[]⟩,.int .i64 0]
def zeroC:Array Value:=#[.int .u8 0,.string ⟨#[]⟩,.string ⟨#[]⟩,.slice none 0 0,.string ⟨#[]⟩,.int .i64 0]
def SlA1 (a:AttrL):Ty:=.inr fun u W=>∃g,u=.slice (some ⟨g,0,none⟩) 1 1∧W.heap[g]? = some (.cells #[.string a.space,.string a.name,.string a.value] 80 (0,0))
theorem stable_sla1 (a:AttrL):Stable (SlA1 a):=fun u W W' h hx=>by
 obtain⟨g,h1,h2⟩:=h
 exact⟨g,h1,heap_ext h2 hx⟩
section
variable {ops:Array Oper} {w0:World} {Fin:List Ty→Prop} {rest:List Oper} {E:Env} {Ts:List Ty} {o:Oper}
theorem tw_ixS {x y:Operand} {b off n c k:Nat} (hk:k < n) (hop:o.op=.indexAddr 44 x y) (hx:evalE E x=some (.slice (some ⟨b,off,none⟩) n c)) (hy:evalE E y=some (.int .i64 (k:Int))) (hw:Wd ops o E true)
  (hr:wpT Tryz.prog ops w0 Fin rest (E.put o.dst (.inl (.pointer (some ⟨b,off+k,none⟩)))) (.inl (.pointer (some ⟨b,off+k,none⟩)) :: Ts)):wpT Tryz.prog ops w0 Fin (o :: rest) E Ts:=
 tw_pure _ hw (fun a W hW hs=>by
  have h1:a.eval x=_:=evalE_of hx (by rw [hop];simp [Op.operands]) hs
  have h2:a.eval y=_:=evalE_of hy (by rw [hop];simp [Op.operands]) hs
  unfold execOp
  simp only [hop,h1,h2]
  go_simp) hr
theorem tw_add1 {x y:Operand} {k:Nat} (hb:k≤1000000000) (hop:o.op=.binOp .add 3 x y 3) (hx:evalE E x=some (.int .i64 (k:Int))) (hy:evalE E y=some (.int .i64 1)) (hw:Wd ops o E true)
  (hr:wpT Tryz.prog ops w0 Fin rest (E.put o.dst (.inl (.int .i64 ((k+1:Nat):Int)))) (.inl (.int .i64 ((k+1:Nat):Int)) :: Ts)):wpT Tryz.prog ops w0 Fin (o :: rest) E Ts:=
 tw_pure _ hw (fun a W hW hs=>by
  have h1:a.eval x=_:=evalE_of hx (by rw [hop];simp [Op.operands]) hs
  have h2:a.eval y=_:=evalE_of hy (by rw [hop];simp [Op.operands]) hs
  unfold execOp
  simp only [hop,h1,h2]
  go_simp
  have hwr:IntKind.wrap .i64 ((k:Int)+1)=(k:Int)+1:=IntWalk.i64_in _ (by omega)
  rw [hwr]) hr
theorem tw_bldA {x y:Operand} (a b:ByteArray) (hop:o.op=.build 80 #[(1,x),(2,y)]) (hx:evalE E x=some (.string a)) (hy:evalE E y=some (.string b)) (hw:Wd ops o E true)
  (hr:wpT Tryz.prog ops w0 Fin rest (E.put o.dst (.inl (.agg #[.string ⟨#[]⟩,.string a,.string b]))) (.inl (.agg #[.string ⟨#[]⟩,.string a,.string b]) :: Ts)):wpT Tryz.prog ops w0 Fin (o :: rest) E Ts:=
 tw_pure _ hw (fun ac W hW hs=>by
  have h1:ac.eval x=_:=evalE_of hx (by rw [hop];simp [Op.operands]) hs
  have h2:ac.eval y=_:=evalE_of hy (by rw [hop];simp [Op.operands]) hs
  unfold execOp
  simp only [hop,List.map_toArray,List.map_cons,List.map_nil,h1,h2]
  go_simp) hr
theorem tw_newA {x:Operand} (a b:ByteArray) (hop:o.op=.buildSlice 67 1 #[(0,x)]) (hx:evalE E x=some (.agg #[.string ⟨#[]⟩,.string a,.string b])) (hw:Wd ops o E true)
  (hr:wpT Tryz.prog ops w0 Fin rest (E.put o.dst (SlA1 ⟨emB,a,b⟩)) (SlA1 ⟨emB,a,b⟩ :: Ts)):wpT Tryz.prog ops w0 Fin (o :: rest) E Ts:=
 tw_val (SlA1 ⟨emB,a,b⟩) (stable_sla1 _) hw (fun ac W hW hs=>by
  have h1:ac.eval x=_:=evalE_of hx (by rw [hop];simp [Op.operands]) hs
  refine⟨.slice (some ⟨W.heap.size,0,none⟩) 1 1,W.alloc (.cells #[.string ⟨#[]⟩,.string a,.string b] 80),?_,(Below.refl _ W).alloc (Nat.le_refl _) _,W.heap.size,rfl,heap_alloc_new W _⟩
  unfold execOp
  simp only [hop,List.map_toArray,List.map_cons,List.map_nil,h1]
  go_simp) hr
end
theorem rd_a1 {W:World} {g:Nat} {a:AttrL} (h:W.heap[g]? = some (.cells #[.string a.space,.string a.name,.string a.value] 80 (0,0))):Rd W (g+1) 3 (some ⟨g,0,none⟩) 1 (cellsA [a]):=by
 refine⟨rfl,fun _=>⟨g,0,rfl,Nat.lt_succ_self _,fun j u hu=>?_⟩⟩
 rw [Nat.zero_add,cell_of_row W g j _ _ _ h]
 simpa [cellsA,cA] using hu
theorem rda_of {w w':World} {A:Option Addr} {l:List AttrL} {g:Nat} (h:RdA w w.heap.size A l) (hl:∀b off,A=some ⟨b,off,none⟩→b≠g) (hk:∀b q,b≠g→w'.cell? ⟨b,q,none⟩=w.cell? ⟨b,q,none⟩) (hs:w.heap.size≤w'.heap.size):RdA w' w'.heap.size A l:=fun h0=>by
 obtain⟨b,off,h1,hb,hcc⟩:=h h0
 have hne:=hl b off h1
 refine⟨b,off,h1,Nat.lt_of_lt_of_le hb hs,fun i x hi=>?_⟩
 obtain⟨e0,e1,e2⟩:=hcc i x hi
 exact⟨(hk _ _ hne).trans e0,(hk _ _ hne).trans e1,(hk _ _ hne).trans e2⟩
theorem put6_cell (w:World) (g b q:Nat) (hne:b≠g) (u0 u1 u2 u3 u4 u5:Value):(put6 w g u0 u1 u2 u3 u4 u5).cell? ⟨b,q,none⟩=w.cell? ⟨b,q,none⟩:=by
 have h:∀(o:Nat),(⟨g,o,none⟩:Addr)≠⟨b,q,none⟩:=fun o e=>hne (by injection e with e;exact e.symm)
 unfold put6
 rw [World.cell?_setCell_other _ _ _ _ (h 5),World.cell?_setCell_other _ _ _ _ (h 4),World.cell?_setCell_other _ _ _ _ (h 3),World.cell?_setCell_other _ _ _ _ (h 2),World.cell?_setCell_other _ _ _ _ (h 1),World.cell?_setCell_other _ _ _ _ (h 0)]
theorem own_ne {A:Option Addr} {n c B g:Nat} (hl:∀k,(Value.slice A n c).ownBlock=some k→g+2≤k∧k < B):∀b off,A=some ⟨b,off,none⟩→b≠g:=fun b off h=>by
 have:=(hl b (by rw [h];rfl)).1
 omega
theorem elem_put6 {space name:ByteArray} {l:List AttrL} {w wr:World} {A:Option Addr} {c B:Nat} (hb:Below w.heap.size w wr) (h:RdA wr wr.heap.size A l) (hl:∀k,(Value.slice A l.length c).ownBlock=some k→w.heap.size+2≤k∧k < B) (hc:l.length≤c) :
  ElemE space name l w (.returned (encN (mkN space name l) A c)) (put6 wr w.heap.size (.int .u8 1) (.string space) (.string name) (.slice A l.length c) (.string ⟨#[]⟩) (.int .i64 0)):=by
 have h1:=put6_below (Below.refl w.heap.size wr) (g:=w.heap.size) (Nat.le_refl _) (.int .u8 1) (.string space) (.string name) (.slice A l.length c) (.string ⟨#[]⟩) (.int .i64 0)
 have h2:=fun b q hne=>put6_cell wr w.heap.size b q hne (.int .u8 1) (.string space) (.string name) (.slice A l.length c) (.string ⟨#[]⟩) (.int .i64 0)
 generalize put6 wr w.heap.size (.int .u8 1) (.string space) (.string name) (.slice A l.length c) (.string ⟨#[]⟩) (.int .i64 0)=W at h1 h2 ⊢
 refine elemE_mk rfl hc (fun h0=>?_) (hb.trans h1)
 obtain⟨b,off,h3,h4,h5⟩:=rda_of h (own_ne hl) h2 h1.size h0
 have h6:=hl b (by rw [h3];rfl)
 exact⟨b,off,h3,by omega,by omega,h4,h5⟩
set_option maxHeartbeats 4000000 in
set_option maxRecDepth 10000 in
theorem elem_any (space name:ByteArray) (ps:List ByteArray) (A:Option Addr) (c:Nat) (w:World) (hr:RdS w A ps) (hn:ps.length≤100) :
  Calls Tryz.prog 28 #[.string space,.string name,.slice A ps.length c] w (ElemE space name (pairsT ps (ps.length / 2)) w):=by
 obtain⟨W0,hW0⟩:∃W0,W0=(w.alloc (.cells zeroC 69)).alloc (.cells (nodeC space name (.slice none 0 0)) 69):=⟨_,rfl⟩
 have hX0:Below w.heap.size w W0:=by rw [hW0];exact((Below.refl _ _).alloc (Nat.le_refl _) _).alloc (by simp) _
 have hs0:W0.heap.size=w.heap.size+2:=by rw [hW0];simp
 have hR0:W0.heap[w.heap.size]? = some (.cells zeroC 69 (0,0)):=by
  rw [hW0];exact heap_ext (heap_alloc_new w _) ((Below.refl _ _).alloc (Nat.le_refl _) _)
 have hN0:W0.heap[w.heap.size+1]? = some (.cells (nodeC space name (.slice none 0 0)) 69 (0,0)):=by
  rw [hW0]
  have h:=heap_alloc_new (w.alloc (.cells zeroC 69)) (.cells (nodeC space name (.slice none 0 0)) 69)
  simpa using h
 have HR:=Lib.hid hr
 have HX0:=Lib.hid hX0
 have HR0:=Lib.hid hR0
 have HN0:=Lib.hid hN0
 have HS0:=Lib.hid hs0
 have HWE:=Lib.hid (show W0=(w.alloc (.cells #[.int .u8 0,.string ⟨#[]⟩,.string ⟨#[]⟩,.slice none 0 0,.string ⟨#[]⟩,.int .i64 0] 69)).alloc (.cells #[.int .u8 1,.string space,.string name,.slice none 0 0,.string ⟨#[]⟩,.int .i64 0] 69) from hW0)
 clear hW0 hX0 hs0 hR0 hN0 hr
 go_enter Tryz.func28,Tryz.ntmps28
 go_wp2
 rw [←HWE.out]
 go_loopw [8] (fun s8 wr=>∃(k i:Nat) (Aq:Option Addr) (cq:Nat),(k≤ps.length / 2∧i≤2*k∧2*k≤i)∧s8=.int .i64 (i:Int)∧Hid (Below w.heap.size w wr)∧Hid (wr.ownsRow (w.heap.size+2) 80 3 (.slice Aq (pairsT ps k).length cq) (pairsT ps k).length (cellsA (pairsT ps k)))∧
  Hid (wr.heap[w.heap.size]? = some (.cells zeroC 69 (0,0)))∧Hid (wr.heap[w.heap.size+1]? = some (.cells (nodeC space name (.slice Aq (pairsT ps k).length cq)) 69 (0,0)))∧Hid (w.heap.size+2≤wr.heap.size)) (fun s8 _=>ps.length - (intOf s8).toNat)
 case atStart=>exact⟨0,0,none,0,⟨Nat.zero_le _,Nat.le_refl _,Nat.le_refl _⟩,rfl,HX0,World.ownsRow_nil _ _ _ _,HR0,HN0,Lib.hid (by rw [HS0.out];exact Nat.le_refl _)⟩
 case round=>
  obtain⟨k,i,Aq,cq,⟨hk,hi,hi'⟩,rfl,HB,HO,HR1,HN1,HS⟩:=hrel
  by_cases hlt:i+1 < ps.length
  ·obtain⟨x,hx⟩:∃x,ps[i]? = some x:=⟨_,List.getElem?_eq_getElem (by omega)⟩
   obtain⟨y,hy⟩:∃y,ps[i+1]? = some y:=⟨_,List.getElem?_eq_getElem hlt⟩
   obtain⟨b,off,rfl,hb,hcc⟩:=HR.out (by omega)
   have e1:=(HB.out.cell (p:=⟨b,off+i,none⟩) hb).trans (hcc i x hx)
   have e2:=(HB.out.cell (p:=⟨b,off+(i+1),none⟩) hb).trans (hcc (i+1) y hy)
   have HPT:Hid (pairsT ps (k+1)=withA (pairsT ps k) x y):=Lib.hid (by
    obtain rfl:i=2*k:=by omega
    show withA (pairsT ps k) (ps.getD (2*k) emB) (ps.getD (2*k+1) emB)=_
    rw [List.getD_eq_getElem?_getD,List.getD_eq_getElem?_getD,hx,hy];rfl)
   have hk2:k+1≤ps.length / 2:=by omega
   have hpl:=pairsT_len ps k
   have el:=emp_iff y
   have HWA:Box (withA (pairsT ps k) x y=if isEmp y then pairsT ps k else pairsT ps k++[⟨emB,x,y⟩]):=⟨rfl⟩
   clear hx hy hcc
   cases hey:isEmp y
   ·rw [hey] at el HWA
    have c3:wr.cell? ⟨w.heap.size+1,3,none⟩=some (.slice Aq (pairsT ps k).length cq):=by simp [World.cell?,HN1.out,nodeC]
    have f3:=True.intro
    have G1:=Lib.hid (fun W (hW:Ext wr.drew W)=>(ext_below hW).cell (p:=⟨b,off+i,none⟩) (Nat.lt_of_lt_of_le hb HB.out.size) |>.trans e1)
    have G2:=Lib.hid (fun W (hW:Ext wr.drew W)=>(ext_below hW).cell (p:=⟨b,off+(i+1),none⟩) (Nat.lt_of_lt_of_le hb HB.out.size) |>.trans e2)
    have G3:=Lib.hid (fun W (hW:Ext wr.drew W)=>(ext_below hW).cell (p:=⟨w.heap.size+1,3,none⟩) (by have:=HS.out;show _+1 < _;omega) |>.trans c3)
    clear hey
    go_wp2_with fail
    refine wp_region_typed_tail 13 rfl (by kernel_rfl) (by kernel_rfl) (by kernel_rfl) ?_
    repeat (first|refine tw_ldA rfl rfl G3.out (wdA rfl) ?_|refine tw_ixS (k:=i) (by omega) rfl rfl rfl (wdA rfl) ?_|refine tw_ixS (k:=i+1) hlt rfl rfl rfl (wdA rfl) ?_|refine tw_ldS rfl rfl G1.out (wdA rfl) ?_|refine tw_ldS rfl rfl G2.out (wdA rfl) ?_|refine tw_add1 (by omega) rfl rfl rfl (wdA rfl) ?_|refine tw_bldA x y rfl rfl rfl (wdA rfl) ?_|refine tw_newA x y rfl rfl (wdA rfl) ?_|refine tw_skip (wd_no rfl rfl rfl) ?_|refine tw_mv (.inl rfl) rfl (wdA rfl) ?_|refine tw_mv (.inr rfl) rfl (wdA rfl) ?_|refine tw_pickL rfl rfl rfl (wdA rfl) ?_|refine tw_op1 _ rfl rfl (wdA rfl) (fun ρ W hW h1=>by simp only [execOp,h1];go_simp;first|done|rfl) ?_|refine tw_op2 _ rfl rfl rfl (wdA rfl) (fun ρ W hW h1 h2=>by simp only [execOp,h1,h2];go_simp;first|done|rfl) ?_)
    dsimp only [wpT,List.reverse,List.reverseAux,FinT,SlA1,List.take,List.drop]
    intro u9 W5 hW5 hu9
    obtain⟨g9,rfl,hg9⟩:=hu9.2
    simp only [Act.put,List.setIfInBounds_toArray,List.set_cons_zero,List.set_cons_succ]
    have hb5:Below wr.heap.size wr W5:=ext_below hW5
    have HO5:=Lib.hid (own_keep HO.out hb5)
    have HRD:=Lib.hid (rd_a1 (a:=⟨emB,x,y⟩) hg9)
    have HS5:Hid (w.heap.size+2≤W5.heap.size):=Lib.hid (Nat.le_trans HS.out hb5.size)
    have HB5:=Lib.hid (HB.out.trans (hb5.mono HB.out.size))
    have HR5:=Lib.hid (heap_ext HR1.out hb5)
    have HN5:=Lib.hid (heap_ext HN1.out hb5)
    clear hW5 hu9 hg9 hb5 G1 G2 G3 e1 e2 c3 f3
    go_wp2_with (at_builtin;refine app_attrs rfl _ _ rfl (w.heap.size+2) _ (pairsT ps k).length (pairsT ps k) rfl HO5.out _ _ _ _ [⟨emB,x,y⟩] rfl HRD.out (by omega) HS5.out ?_)
    intro v2 w2 o2 hg2 _
    obtain⟨A2,c2,rfl⟩:=own_form o2
    have k2:=Lib.hid ((Below.refl (w.heap.size+2) W5).grown hg2 HS5.out (fun q hq=>(HO5.out.lt q hq).1))
    have HP2:Hid (pairsT ps (k+1)=pairsT ps k++[⟨emB,x,y⟩]):=Lib.hid (HPT.out.trans (HWA.out.trans (by rfl)))
    have HO2:=Lib.hid o2
    have HB2:Hid (Below w.heap.size w w2):=Lib.hid (HB5.out.trans (k2.out.mono (by omega)))
    have HR2:Hid (w2.heap[w.heap.size]? = some (.cells zeroC 69 (0,0))):=Lib.hid ((k2.out.block w.heap.size (by omega)).trans HR5.out)
    have HN2:Hid (w2.heap[w.heap.size+1]? = some (.cells (nodeC space name (.slice Aq (pairsT ps k).length cq)) 69 (0,0))):=Lib.hid ((k2.out.block (w.heap.size+1) (by omega)).trans HN5.out)
    have HS2:Hid (w.heap.size+2≤w2.heap.size):=Lib.hid (Nat.le_trans HS5.out k2.out.size)
    have hps:i≤100:=by omega
    have c3:w2.cell? ⟨w.heap.size+1,3,none⟩=some (.slice Aq (pairsT ps k).length cq):=by simp [World.cell?,HN2.out,nodeC]
    have f3:=frozen_of_row w2 (w.heap.size+1) 3 _ _ HN2.out
    clear o2 hg2 k2 HO5 HRD
    go_wp2
    go_roundw
    case rel=>
     refine⟨k+1,i+2,A2,c2,⟨hk2,by omega,by omega⟩,by go_num,Lib.hid (HB2.out.setCell (p:=⟨w.heap.size+1,3,none⟩) (by simp) _),Lib.hid ?_,Lib.hid ((heap_setCell_other w2 _ w.heap.size _ (by simp)).trans HR2.out),Lib.hid ?_,Lib.hid (by simpa [World.setCell] using HS2.out)⟩
     ·rw [HP2.out,List.length_append]
      exact own_set HO2.out (fun e=>by have:=(HO2.out.lt _ e).1;omega) _
     ·rw [HP2.out,List.length_append]
      exact heap_setCell_same w2 (w.heap.size+1) 3 _ _ _ HN2.out
    case measure=>simp [intOf];omega
   ·rw [hey] at el HWA
    have HP2:Hid (pairsT ps (k+1)=pairsT ps k):=Lib.hid (HPT.out.trans (HWA.out.trans (by rfl)))
    clear hey
    go_wp2
    go_roundw
    case rel=>exact⟨k+1,i+2,Aq,cq,⟨hk2,by omega,by omega⟩,by go_num,HB,by rw [HP2.out];exact HO,HR1,by rw [HP2.out];exact HN1,HS⟩
    case measure=>simp [intOf];omega
  ·obtain rfl:k=ps.length / 2:=by omega
   have hi9:i≤101:=by omega
   clear hk hi hi'
   generalize pairsT ps (ps.length / 2)=L at *
   have c0:wr.cell? ⟨w.heap.size+1,0,none⟩=some (.int .u8 1):=by simp [World.cell?,HN1.out,nodeC]
   have c1:wr.cell? ⟨w.heap.size+1,1,none⟩=some (.string space):=by simp [World.cell?,HN1.out,nodeC]
   have c2:wr.cell? ⟨w.heap.size+1,2,none⟩=some (.string name):=by simp [World.cell?,HN1.out,nodeC]
   have c3:wr.cell? ⟨w.heap.size+1,3,none⟩=some (.slice Aq L.length cq):=by simp [World.cell?,HN1.out,nodeC]
   have c4:wr.cell? ⟨w.heap.size+1,4,none⟩=some (.string ⟨#[]⟩):=by simp [World.cell?,HN1.out,nodeC]
   have c5:wr.cell? ⟨w.heap.size+1,5,none⟩=some (.int .i64 0):=by simp [World.cell?,HN1.out,nodeC]
   have z0:wr.cell? ⟨w.heap.size,0,none⟩=some (.int .u8 0):=by simp [World.cell?,HR1.out,zeroC]
   have z1:wr.cell? ⟨w.heap.size,1,none⟩=some (.string ⟨#[]⟩):=by simp [World.cell?,HR1.out,zeroC]
   have z2:wr.cell? ⟨w.heap.size,2,none⟩=some (.string ⟨#[]⟩):=by simp [World.cell?,HR1.out,zeroC]
   have z3:wr.cell? ⟨w.heap.size,3,none⟩=some (.slice none 0 0):=by simp [World.cell?,HR1.out,zeroC]
   have z4:wr.cell? ⟨w.heap.size,4,none⟩=some (.string ⟨#[]⟩):=by simp [World.cell?,HR1.out,zeroC]
   have z5:wr.cell? ⟨w.heap.size,5,none⟩=some (.int .i64 0):=by simp [World.cell?,HR1.out,zeroC]
   have f0:=frozen_of_row wr w.heap.size 0 _ _ HR1.out
   have f1:=frozen_of_row wr w.heap.size 1 _ _ HR1.out
   have f2:=frozen_of_row wr w.heap.size 2 _ _ HR1.out
   have f3:=frozen_of_row wr w.heap.size 3 _ _ HR1.out
   have f4:=frozen_of_row wr w.heap.size 4 _ _ HR1.out
   have f5:=frozen_of_row wr w.heap.size 5 _ _ HR1.out
   have HLE:=Lib.hid (own_le HO.out)
   have HRA:=Lib.hid (rd_rda (Rd.of_own HO.out))
   have HLT:=Lib.hid HO.out.lt
   go_wp2
   have hh:=put6_heap HR1.out (.int .u8 1) (.string space) (.string name) (.slice Aq L.length cq) (.string ⟨#[]⟩) (.int .i64 0)
   refine bodyPost_ret (v:=.agg #[.int .u8 1,.string space,.string name,.slice Aq L.length cq,.string ⟨#[]⟩,.int .i64 0]) (results_one (fn:=Tryz.f28) (p:=6) (ty:=69) rfl _ _ w.heap.size _ _ _ rfl hh Tryz.underlying69 (by kernel_rfl)) rfl ?_
   exact elem_put6 (name:=name) (space:=space) HB.out HRA.out HLT.out HLE.out
end Go.Proofs.YtnfokaecobddkaaGreatDoor
end
section
namespace Go.Proofs.YtnfokaecobddkaaGreatDoor
open Go.RowKit
set_option linter.unusedSimpArgs false
set_option linter.unusedVariables false
def buildE (s:StL):Int:=if stnI s then putE (elemS s) s.load else 8
def buildV (s:StL):List NodeL:=if stnI s then putV (elemS s) s.load else []
def BuildPost (s:StL) (w:World) (e:Ending) (w':World):Prop:=
 ∃A c,e=.returned (.tuple #[.slice A (buildV s).length c,.int .i64 (buildE s)])∧(buildV s).length≤c∧NewV w.heap.size w' A c (buildV s)∧Below w.heap.size w w'
theorem BuildPost.no {s:StL} {w w':World} (h:Below w.heap.size w w') (hs:stnI s=false):BuildPost s w (.returned (.tuple #[.slice none 0 0,.int .i64 8])) w':=by
 unfold BuildPost buildV buildE
 rw [hs]
 exact⟨none,0,rfl,Nat.le_refl _,NewV.nil _ _,h⟩
section
variable {ops:Array Oper} {w0:World} {Fin:List Ty→Prop} {rest:List Oper} {E:Env} {Ts:List Ty} {o:Oper}
end
end Go.Proofs.YtnfokaecobddkaaGreatDoor
end
section
namespace Go.Proofs.YtnfokaecobddkaaGreatDoor
def errL:ByteArray:=(⟨#[117,114,110,58,105,101,116,102,58,112,97,114,97,109,115,58,120,109,108,58,110,115,58,120,109,112,112,45,115,116,97,110,122,97,115]⟩:ByteArray)
def errN (word:ByteArray):NodeL:=⟨1,errL,word,[],emB,0⟩
def errH (k:Int):NodeL:=⟨1,(⟨#[106,97,98,98,101,114,58,99,108,105,101,110,116]⟩:ByteArray),(⟨#[101,114,114,111,114]⟩:ByteArray),[⟨emB,(⟨#[116,121,112,101]⟩:ByteArray),(⟨#[99,97,110,99,101,108]⟩:ByteArray)⟩],emB,k⟩
def failV (word:ByteArray):List NodeL:=[errH 1,errN word]
def failS (s:StL) (word:ByteArray):StL:=⟨s.kind,(⟨#[101,114,114,111,114]⟩:ByteArray),s.id,s.to,s.frm,[failV word]⟩
def mayF (s:StL):Bool:=!(s.typ.toList == [101,114,114,111,114]) && (!decide (s.kind=3) || !(s.typ.toList == [114,101,115,117,108,116]))
def failE (s:StL) (word:ByteArray):Int:=if stnI s then(if mayF s && nameI word then 0 else 2) else 8
def failR (s:StL) (word:ByteArray):StL:=if stnI s then(if mayF s && nameI word then failS s word else emS) else emS
theorem one_tree {n:NodeL} (h:nodeI n=true) (h1:n.kind=1) (h2:n.many=0):treeI [n]=true:=by
 unfold treeI endN endK
 simp [h,h1,h2]
end Go.Proofs.YtnfokaecobddkaaGreatDoor
end
