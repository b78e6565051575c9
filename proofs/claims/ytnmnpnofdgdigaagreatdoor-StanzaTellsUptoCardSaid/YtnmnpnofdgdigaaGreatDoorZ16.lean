/- Part 16 of a proof laid in parts, one behind the other; no condition of its own. -/
import Derived.Test.YtnmnpnofdgdigaaGreatDoorZ11
import Derived.Test.YtnmnpnofdgdigaaGreatDoorZ15
import Derived.Test.YtnmnpnofdgdigaaGreatDoorZ08
import Derived.Test.YtnmnpnofdgdigaaGreatDoorZ09
import Derived.Test.YtnmnpnofdgdigaaGreatDoorZ04
import Derived.Test.YtnmnpnofdgdigaaGreatDoorZ06
import Derived.Test.YtnmnpnofdgdigaaGreatDoorZ10
import Derived.WalkMore
set_option linter.all false
section
namespace Go.Proofs.YtnmnpnofdgdigaaGreatDoor
open Go.RowKit
set_option linter.unusedSimpArgs false
set_option linter.unusedVariables false
def NewVX (base:Nat) (u:Value) (w:World) (A:Option Addr) (c:Nat) (v:List NodeL):Prop:=
 ∃l:List NodeH,l.map (·.1)=v∧w.ownsRow base 36 6 (.slice A v.length c) v.length (cellsN l)∧u.ownBlock≠some (blk A)∧∀(i:Nat) (x:NodeH),l[i]? = some x→x.1.attrs.length≤x.2.2∧NewO base u w x.2.1 x.1.attrs
section
variable {base:Nat} {u u':Value} {w w':World} {A:Option Addr} {c:Nat} {v:List NodeL}
theorem NewVX.ext (h:NewVX base u w A c v) (hb:Below w.heap.size w w'):NewVX base u w' A c v:=by
 obtain⟨l,h1,h2,h3,h4⟩:=h
 exact⟨l,h1,own_keep h2 hb,h3,fun i x hi=>⟨(h4 i x hi).1,(h4 i x hi).2.ext hb⟩⟩
theorem NewVX.app (h:NewVX base u w A c v) (h0:0 < v.length) (hg:w.grownBy w' u.ownBlock) (hr:u'.ownBlock=u.ownBlock∨u'.ownBlock=some w.heap.size):NewVX base u' w' A c v:=by
 obtain⟨l,h1,h2,h3,h4⟩:=h
 obtain⟨g,rfl,h5,h6⟩:=own_some h2 h0
 refine⟨l,h1,h2.kept hg (.inr (fun e=>h3 e.symm)),?_,fun i x hi=>⟨(h4 i x hi).1,(h4 i x hi).2.app hg hr⟩⟩
 rcases hr with e|e <;> rw [e]
 ·exact h3
 ·intro e2
  simp only [Option.some.injEq,blk] at e2
  omega
theorem NewVX.of {base':Nat} (h:NewV base' w A c v) (h0:0 < v.length) (hb:base≤base') (hu:∀g,u.ownBlock=some g→g < base'):NewVX base u w A c v:=by
 obtain⟨l,h1,h2,h3⟩:=h
 obtain⟨g,rfl,h5,h6⟩:=own_some h2 h0
 refine⟨l,h1,own_mono h2 hb,fun e=>by have:=hu _ e;simp only [blk] at this;omega,fun i x hi=>⟨(h3 i x hi).1,fun h00=>?_⟩⟩
 obtain⟨b,off,e1,e2,e3,e4,e5⟩:=(h3 i x hi).2 h00
 exact⟨b,off,e1,by omega,fun e=>by have:=hu _ e;omega,e4,e5⟩
theorem NewO.rda {B:Option Addr} {l:List AttrL} (h:NewO base u w B l):RdA w w.heap.size B l:=fun h0=>by
 obtain⟨b,off,h1,_,_,h2,h3⟩:=h h0
 exact⟨b,off,h1,h2,h3⟩
theorem NewVX.rdv (h:NewVX base u w A c v):RdV w w.heap.size A v:=by
 obtain⟨l,rfl,h2,_,h3⟩:=h
 rw [List.length_map] at h2
 exact rd_rdv (Rd.of_own h2) (fun i x hi=>⟨(h3 i x hi).1,(h3 i x hi).2.rda⟩)
end
def RowT (base:Nat) (u:Value) (w:World) (ts:List TreeH):Prop:=
 w.ownsRow base 22 1 u ts.length (cellsT ts)∧∀x∈ts,0 < x.1.length∧x.1.length≤x.2.2∧NewVX base u w x.2.1 x.2.2 x.1
theorem RowT.nil (base:Nat) (w:World):RowT base (.slice none 0 0) w []:=⟨World.ownsRow_nil _ _ _ _,fun x hx=>by cases hx⟩
theorem RowT.ext {base:Nat} {u:Value} {w w':World} {ts:List TreeH} (h:RowT base u w ts) (hb:Below w.heap.size w w'):RowT base u w' ts:=
 ⟨own_keep h.1 hb,fun x hx=>⟨(h.2 x hx).1,(h.2 x hx).2.1,(h.2 x hx).2.2.ext hb⟩⟩
theorem RowT.app {base:Nat} {u u':Value} {w w':World} {ts:List TreeH} {t:TreeH} (h:RowT base u w ts) (ht:0 < t.1.length∧t.1.length≤t.2.2∧NewVX base u w t.2.1 t.2.2 t.1)
  (hown:w'.ownsRow base 22 1 u' (ts.length+1) (cellsT (ts++[t]))) (hg:w.grownBy w' u.ownBlock) (hr:u'.ownBlock=u.ownBlock∨u'.ownBlock=some w.heap.size):RowT base u' w' (ts++[t]):=by
 refine⟨by rw [List.length_append];exact hown,fun x hx=>?_⟩
 rw [List.mem_append,List.mem_singleton] at hx
 rcases hx with hx|rfl
 ·exact⟨(h.2 x hx).1,(h.2 x hx).2.1,(h.2 x hx).2.2.app (h.2 x hx).1 hg hr⟩
 ·exact⟨ht.1,ht.2.1,ht.2.2.app ht.1 hg hr⟩
theorem RowT.rdw {base n c:Nat} {A:Option Addr} {w:World} {ts:List TreeH} (h:RowT base (.slice A n c) w ts) (hn:n=ts.length):RdW w w.heap.size A (ts.map (·.1)):=fun h0=>by
 subst hn
 rw [List.length_map] at h0
 obtain⟨g,rfl,h1,h2⟩:=own_some h.1 h0
 refine⟨g,0,rfl,h2,fun i v hv=>?_⟩
 rw [List.getElem?_map,Option.map_eq_some_iff] at hv
 obtain⟨x,hx,rfl⟩:=hv
 obtain⟨q1,q2,q3⟩:=h.2 x (List.mem_of_getElem? hx)
 refine⟨x.2.1,x.2.2,?_,q2,q3.rdv⟩
 rw [Nat.zero_add,h.1.cellAt i (by have:=(List.getElem?_eq_some_iff.1 hx).1;omega)]
 simp [cellsT,hx,cT]
def ElemsPost (v:List NodeL) (w:World) (e:Ending) (w':World):Prop:=
 ∃A c ts,e=.returned (.tuple #[.slice A (elemsI v).length c,.bool (blanksI v)])∧(elemsI v).length≤c∧ts.map (·.1)=elemsI v∧RowT w.heap.size (.slice A (elemsI v).length c) w' ts∧Below w.heap.size w w'
theorem kid_kind {v:List NodeL} (ht:treeI v=true) {k:Nat} (hk:k < v.length):(nodeAt v k).kind=1∨(nodeAt v k).kind=2:=by
 obtain⟨x,hx,_⟩:=tree_ends ht hk
 obtain⟨n,hn,h1,_,_⟩:=endN_inv hx
 have e:nodeAt v k=n:=by unfold nodeAt;rw [List.getD_eq_getElem?_getD,hn];rfl
 rw [e]
 exact node_kind h1
theorem node_get {v:List NodeL} {k:Nat} (hk:k < v.length):v[k]? = some (nodeAt v k):=by
 unfold nodeAt
 rw [List.getD_eq_getElem?_getD,List.getElem?_eq_getElem hk]
 rfl
theorem take_kids {l:List Nat} {j k:Nat} (h:l[j]? = some k):l.take (j+1)=l.take j++[k]:=by rw [List.take_add_one,h];rfl
set_option maxHeartbeats 16000000 in
set_option maxRecDepth 10000 in
theorem within_any (v:List NodeL) (A:Option Addr) (c:Nat) (w:World) (hc:v.length≤c) (hz:SzV 1000000000 v) (hr:RdV w w.heap.size A v) (ht:treeI v=true) :
  Calls Tryz.prog 31 #[.slice A v.length c] w (ElemsPost v w):=by
 have hl0:=(tree_parts ht).1
 have hl5:=(tree_parts ht).2.1
 have H:=Lib.hid (kids_any v A c 0 w hc hz hr ht hl0)
 unfold KidsPost at H
 obtain⟨e0,he0,_⟩:=tree_ends ht hl0
 have HLT:=Lib.hid (fun k (hk:k∈kidsI v 0)=>(kids_lt he0 hk).1)
 have HKK:=Lib.hid (fun k (hk:k < v.length)=>kid_kind ht hk)
 have HSUB:=Lib.hid (fun k (hk:k < v.length) (h1:(nodeAt v k).kind=1) W (hW:RdV W W.heap.size A v)=>sub_any v A c k W hc hz hW ht (nodeAt v k) (node_get hk) h1)
 unfold SubPost at HSUB
 have HPL:=Lib.hid (fun k (hk:k < v.length)=>by
  obtain⟨x,hx,h1,h2⟩:=tree_ends ht hk
  have:=part_len hx
  exact(show 0 < (partI v k).length by omega))
 have HZN:=Lib.hid (fun k (hk:k < v.length)=>(szv_get hz (node_get hk)).2.2.2.2.1)
 have HR:=Lib.hid hr
 have HEL:Hid (elemsI v=elemsK v (kidsI v 0)):=rfl
 have HBL:Hid (blanksI v=blanksK v (kidsI v 0)):=rfl
 have HKN:Hid ((kidsI v 0).length≤512):=Lib.hid (by
  have h1:=(chain_start he0).lt (by omega)
  unfold kidsI
  rw [kidL_len]
  have:=(endN_le v 12 0 e0 he0).2
  omega)
 obtain⟨b,off,rfl,hb,hcc⟩:=hr hl0
 have HC0:Hid (∀k,k < v.length→∀W,Below w.heap.size w W→W.cell? ⟨b,off+k*6,none⟩=some (.int .u8 (nodeAt v k).kind)∧W.cell? ⟨b,off+k*6+4,none⟩=some (.string (nodeAt v k).text)):=Lib.hid (fun k hk W hW=>by
  have h:=hcc k _ (node_get hk)
  exact⟨(hW.cell (p:=⟨b,off+k*6,none⟩) hb).trans h.1,(hW.cell (p:=⟨b,off+k*6+4,none⟩) hb).trans h.2.2.2.2.1⟩)
 clear hz hc ht he0 hr hcc
 unfold ElemsPost
 generalize kidsI v 0=ks at *
 have hkn:=HKN.out
 generalize elemsI v=EL at *
 generalize blanksI v=BL at *
 go_enter Tryz.func31,Tryz.ntmps31
 go_wp2_with fail
 refine H.out.mono ?_
 rintro e w1 ⟨uk,rfl,hown1,hb1⟩
 obtain⟨Ak,ck,rfl⟩:=own_form hown1
 have HO1:=Lib.hid hown1
 have X1:=Lib.hid hb1
 clear hown1 hb1
 go_wp2
 go_loopw [2,3,7,8,9,17] (fun s2 s3 _ _ _ s17 wr=>∃(j:Nat) (ts:List TreeH),j≤ks.length∧s17=.int .i64 j∧s3=.bool (blanksK v (ks.take j))∧Hid (Below w1.heap.size w1 wr)∧Hid (ts.map (·.1)=elemsK v (ks.take j))∧Hid (RowT w1.heap.size s2 wr ts)∧ts.length≤j) (fun _ _ _ _ _ s17 _=>ks.length - (intOf s17).toNat)
 case atStart=>exact⟨0,[],Nat.zero_le _,rfl,rfl,Lib.hid (Below.refl _ _),rfl,RowT.nil _ _,Nat.le_refl _⟩
 case round=>
  obtain⟨j,ts,hj,rfl,rfl,HB,HM,HT,htj⟩:=hrel
  obtain⟨A2,c2,rfl⟩:=own_form HT.out.1
  have HBW:Hid (Below w.heap.size w wr):=X1.out.trans (HB.out.mono X1.out.size)
  by_cases hlt:j < ks.length
  ·obtain⟨k,hk⟩:∃k,ks[j]? = some k:=⟨_,List.getElem?_eq_getElem hlt⟩
   have hkv:=HLT.out k (List.mem_of_getElem? hk)
   obtain⟨gk,rfl,hgk1,hgk2⟩:=own_some HO1.out (by omega)
   have d0:=(HB.out.cell (p:=⟨gk,j,none⟩) hgk2).trans ((HO1.out.cellAt j (by omega)).trans (by simp [ints,hk];rfl))
   obtain⟨d1,d2⟩:=HC0.out k hkv wr HBW.out
   have HTK:=Lib.hid (take_kids hk)
   have hkk:=HKK.out k hkv
   have HBS:=Lib.hid (blanksK_succ v (ks.take j) k)
   have HES:=Lib.hid (elemsK_succ v (ks.take j) k)
   rw [←HTK.out] at HBS HES
   have HS:=Lib.hid (HSUB.out k hkv)
   have hpl:=HPL.out k hkv
   have htz:=HZN.out k hkv
   clear hk HTK
   generalize nodeAt v k=n at *
   rcases hkk with hk1|hk2
   ·rw [hk1] at d1
    have HS1:=Lib.hid (HS.out hk1 wr ((HR.out.below HBW.out (Nat.le_refl _)).more HBW.out.size))
    rw [if_pos hk1] at HES
    rw [decide_eq_true hk1,Bool.true_or,Bool.and_true] at HBS
    clear HS
    generalize partI v k=P at *
    generalize blanksK v (ks.take j)=bb at *
    go_wp2_with fail
    refine HS1.out.mono ?_
    rintro e2 w2 ⟨A3,c3,rfl,hl3,hnew,hb2⟩
    have X2:=Lib.hid (HB.out.trans (hb2.mono HB.out.size))
    have HT2:=Lib.hid (HT.out.ext hb2)
    have hsz2:=hb2.size
    have hszr:=HB.out.size
    have HNX:Hid (NewVX w1.heap.size (.slice A2 ts.length c2) (w2.alloc (.cells #[.slice A3 P.length c3] 22)) A3 c3 P):=Lib.hid ((NewVX.of hnew hpl hszr (fun g hg=>(HT.out.1.lt g hg).2)).ext ((Below.refl _ _).alloc (Nat.le_refl _) _))
    have HTA:=Lib.hid (HT2.out.ext ((Below.refl _ _).alloc (Nat.le_refl _) (.cells #[.slice A3 P.length c3] 22)))
    have HRN:Hid (Rd (w2.alloc (.cells #[.slice A3 P.length c3] 22)) (w2.heap.size+1) 1 (some ⟨w2.heap.size,0,none⟩) 1 (cellsT [(P,A3,c3)])):=Rd.new w2 22 #[.slice A3 P.length c3] (s:=1) (n:=1) rfl
    have HL3:=Lib.hid hl3
    clear hb2 hnew hl3 d0 d1 d2
    go_wp2_with (at_builtin;refine app_trees rfl _ _ rfl w1.heap.size _ ts.length ts rfl HTA.out.1 _ _ _ _ [(P,A3,c3)] rfl HRN.out (by omega) (by simp;omega) ?_)
    intro v4 w4 hown4 hg4 hbk
    have HT4:=Lib.hid (RowT.app HTA.out ⟨hpl,HL3.out,HNX.out⟩ hown4 hg4 (by simpa using hbk))
    have HX4:Hid (Below w1.heap.size w1 w4):=(X2.out.alloc X2.out.size _).grown hg4 (by have:=X2.out.size;simp;omega) (fun q hq=>(HT.out.1.lt q hq).1)
    clear hown4 hg4 hbk
    go_wp2
    go_roundw
    case rel=>exact⟨j+1,ts++[(P,A3,c3)],by omega,by go_num,by rw [HBS.out],HX4,Lib.hid (by rw [HES.out,List.map_append,HM.out];rfl),HT4,by rw [List.length_append];simp;omega⟩
    case measure=>simp [intOf];omega
   ·rw [hk2] at d1
    rw [if_neg (by omega)] at HES
    have hk21:decide (n.kind=1)=false:=decide_eq_false (by omega)
    rw [hk21,Bool.false_or] at HBS
    have HTR:=Lib.hid (fun W=>trim_any n.text (⟨#[32,9,10,13]⟩:ByteArray) W htz (by decide) (by decide))
    have hbi:blankI n.text=setAll blankL n.text:=rfl
    clear HS hk21
    generalize blanksK v (ks.take j)=bb at *
    cases bb
    ·go_wp2
     go_roundw
     case rel=>exact⟨j+1,ts,by omega,by go_num,by rw [HBS.out];rfl,HB,Lib.hid (by rw [HES.out];exact HM.out),HT,by omega⟩
     case measure=>simp [intOf];omega
    ·cases hq:setAll blankL n.text
     ·have hne:Lib.trimS n.text.data.toList ((⟨#[32,9,10,13]⟩:ByteArray)).data.toList≠[]:=fun h=>by
       rw [trimS_nil] at h
       unfold setAll at hq
       rw [show blankL=((⟨#[32,9,10,13]⟩:ByteArray)).data.toList from rfl,h] at hq
       cases hq
      obtain⟨t,ht⟩:∃t:ByteArray,t=⟨(Lib.trimS n.text.data.toList ((⟨#[32,9,10,13]⟩:ByteArray)).data.toList).toArray⟩:=⟨_,rfl⟩
      have he:t.toList.isEmpty=false:=by
       rw [Lib.toList_data,ht]
       cases h:Lib.trimS n.text.data.toList ((⟨#[32,9,10,13]⟩:ByteArray)).data.toList with
       | nil=>exact absurd h hne
       | cons a l=>rfl
      rw [←ht] at HTR
      rw [hbi,hq] at HBS
      clear hq hne ht hbi
      go_wp2_with fail
      refine(HTR.out _).mono ?_
      rintro e2 w2 ⟨rfl,hb2⟩
      have X2:=Lib.hid (HB.out.trans (hb2.mono HB.out.size))
      have HT2:=Lib.hid (HT.out.ext hb2)
      clear hb2
      go_wp2
      go_roundw
      case rel=>exact⟨j+1,ts,by omega,by go_num,by rw [HBS.out];rfl,X2,Lib.hid (by rw [HES.out];exact HM.out),HT2,by omega⟩
      case measure=>simp [intOf];omega
     ·have hnil:Lib.trimS n.text.data.toList ((⟨#[32,9,10,13]⟩:ByteArray)).data.toList=[]:=(trimS_nil _ _).2 hq
      rw [hnil] at HTR
      rw [hbi,hq] at HBS
      clear hq hnil hbi
      go_wp2_with fail
      refine(HTR.out _).mono ?_
      rintro e2 w2 ⟨rfl,hb2⟩
      have X2:=Lib.hid (HB.out.trans (hb2.mono HB.out.size))
      have HT2:=Lib.hid (HT.out.ext hb2)
      clear hb2
      go_wp2
      go_roundw
      case rel=>exact⟨j+1,ts,by omega,by go_num,by rw [HBS.out];rfl,X2,Lib.hid (by rw [HES.out];exact HM.out),HT2,by omega⟩
      case measure=>simp [intOf];omega
  ·obtain rfl:j=ks.length:=by omega
   rw [List.take_length] at HM ⊢
   have HLE:=Lib.hid (own_le HT.out.1)
   have HEM:Hid (ts.map (·.1)=EL):=Lib.hid (by rw [HM.out,HEL.out])
   have HLN:Hid (ts.length=EL.length):=Lib.hid (by rw [←HEM.out,List.length_map])
   go_wp2
   go_ret2
   refine⟨A2,c2,ts,by rw [HBL.out,←HLN.out];rfl,by rw [←HLN.out];exact HLE.out,HEM.out,?_,HBW.out⟩
   rw [←HLN.out]
   refine⟨own_mono HT.out.1 X1.out.size,fun x hx=>?_⟩
   obtain⟨q1,q2,l,q3,q4,q5,q6⟩:=HT.out.2 x hx
   exact⟨q1,q2,l,q3,own_mono q4 X1.out.size,q5,fun i y hi=>⟨(q6 i y hi).1,fun h00=>by
    obtain⟨b',off',e1,e2,e3⟩:=(q6 i y hi).2 h00
    exact⟨b',off',e1,Nat.le_trans X1.out.size e2,e3⟩⟩⟩
end Go.Proofs.YtnmnpnofdgdigaaGreatDoor
end
section
namespace Go.Proofs.YtnmnpnofdgdigaaGreatDoor
open Go.RowKit
set_option linter.unusedSimpArgs false
set_option linter.unusedVariables false
set_option maxHeartbeats 16000000 in
set_option maxRecDepth 10000 in
theorem refelems_any (v:List NodeL) (A:Option Addr) (c:Nat) (w:World) (hc:v.length≤c) (hz:SzV 1000000000 v) (hr:RdV w w.heap.size A v) (ht:treeI v=true) :
  Calls Tryz.prog 83 #[.slice A v.length c] w (ElemsPost v w):=by
 have hl0:=(tree_parts ht).1
 have hl5:=(tree_parts ht).2.1
 have H:=Lib.hid (refunder_any v A c 0 w hc hz hr ht hl0)
 unfold UnderPost at H
 obtain⟨e0,he0,_⟩:=tree_ends ht hl0
 have HLT:=Lib.hid (fun k (hk:k∈kidsI v 0)=>(kids_lt he0 hk).1)
 have HKK:=Lib.hid (fun k (hk:k < v.length)=>kid_kind ht hk)
 have HSUB:=Lib.hid (fun k (hk:k < v.length) (h1:(nodeAt v k).kind=1) W (hW:RdV W W.heap.size A v)=>refpart_any v A c k W hc hz hW ht hk)
 unfold PartPost at HSUB
 have HPL:=Lib.hid (fun k (hk:k < v.length)=>by
  obtain⟨x,hx,h1,h2⟩:=tree_ends ht hk
  have:=part_len hx
  exact(show 0 < (partI v k).length by omega))
 have HZN:=Lib.hid (fun k (hk:k < v.length)=>(szv_get hz (node_get hk)).2.2.2.2.1)
 have HR:=Lib.hid hr
 have HEL:Hid (elemsI v=elemsK v (kidsI v 0)):=rfl
 have HBL:Hid (blanksI v=blanksK v (kidsI v 0)):=rfl
 have HKN:Hid ((kidsI v 0).length≤512):=Lib.hid (by
  have h1:=(chain_start he0).lt (by omega)
  unfold kidsI
  rw [kidL_len]
  have:=(endN_le v 12 0 e0 he0).2
  omega)
 obtain⟨b,off,rfl,hb,hcc⟩:=hr hl0
 have HC0:Hid (∀k,k < v.length→∀W,Below w.heap.size w W→W.cell? ⟨b,off+k*6,none⟩=some (.int .u8 (nodeAt v k).kind)∧W.cell? ⟨b,off+k*6+4,none⟩=some (.string (nodeAt v k).text)):=Lib.hid (fun k hk W hW=>by
  have h:=hcc k _ (node_get hk)
  exact⟨(hW.cell (p:=⟨b,off+k*6,none⟩) hb).trans h.1,(hW.cell (p:=⟨b,off+k*6+4,none⟩) hb).trans h.2.2.2.2.1⟩)
 clear hz hc ht he0 hr hcc
 unfold ElemsPost
 generalize kidsI v 0=ks at *
 have hkn:=HKN.out
 generalize elemsI v=EL at *
 generalize blanksI v=BL at *
 go_enter Tryz.func83,Tryz.ntmps83
 go_wp2_with fail
 refine H.out.mono ?_
 rintro e w1 ⟨uk,rfl,hown1,hb1⟩
 obtain⟨Ak,ck,rfl⟩:=own_form hown1
 have HO1:=Lib.hid hown1
 have X1:=Lib.hid hb1
 clear hown1 hb1
 go_wp2
 go_loopw [4,5,7] (fun s2 s3 s17 wr=>∃(j:Nat) (ts:List TreeH),j≤ks.length∧s17=.int .i64 j∧s3=.bool (blanksK v (ks.take j))∧Hid (Below w1.heap.size w1 wr)∧Hid (ts.map (·.1)=elemsK v (ks.take j))∧Hid (RowT w1.heap.size s2 wr ts)∧ts.length≤j) (fun _ _ s17 _=>ks.length - (intOf s17).toNat)
 case atStart=>exact⟨0,[],Nat.zero_le _,rfl,rfl,Lib.hid (Below.refl _ _),rfl,RowT.nil _ _,Nat.le_refl _⟩
 case round=>
  obtain⟨j,ts,hj,rfl,rfl,HB,HM,HT,htj⟩:=hrel
  obtain⟨A2,c2,rfl⟩:=own_form HT.out.1
  have HBW:Hid (Below w.heap.size w wr):=X1.out.trans (HB.out.mono X1.out.size)
  by_cases hlt:j < ks.length
  ·obtain⟨k,hk⟩:∃k,ks[j]? = some k:=⟨_,List.getElem?_eq_getElem hlt⟩
   have hkv:=HLT.out k (List.mem_of_getElem? hk)
   obtain⟨gk,rfl,hgk1,hgk2⟩:=own_some HO1.out (by omega)
   have d0:=(HB.out.cell (p:=⟨gk,j,none⟩) hgk2).trans ((HO1.out.cellAt j (by omega)).trans (by simp [ints,hk];rfl))
   obtain⟨d1,d2⟩:=HC0.out k hkv wr HBW.out
   have HTK:=Lib.hid (take_kids hk)
   have hkk:=HKK.out k hkv
   have HBS:=Lib.hid (blanksK_succ v (ks.take j) k)
   have HES:=Lib.hid (elemsK_succ v (ks.take j) k)
   rw [←HTK.out] at HBS HES
   have HS:=Lib.hid (HSUB.out k hkv)
   have hpl:=HPL.out k hkv
   have htz:=HZN.out k hkv
   clear hk HTK
   generalize nodeAt v k=n at *
   rcases hkk with hk1|hk2
   ·rw [hk1] at d1
    have HS1:=Lib.hid (HS.out hk1 wr ((HR.out.below HBW.out (Nat.le_refl _)).more HBW.out.size))
    rw [if_pos hk1] at HES
    rw [decide_eq_true hk1,Bool.true_or,Bool.and_true] at HBS
    clear HS
    generalize partI v k=P at *
    generalize blanksK v (ks.take j)=bb at *
    go_wp2_with fail
    refine HS1.out.mono ?_
    rintro e2 w2 ⟨A3,c3,rfl,hl3,hnew,hb2⟩
    have X2:=Lib.hid (HB.out.trans (hb2.mono HB.out.size))
    have HT2:=Lib.hid (HT.out.ext hb2)
    have hsz2:=hb2.size
    have hszr:=HB.out.size
    have HNX:Hid (NewVX w1.heap.size (.slice A2 ts.length c2) (w2.alloc (.cells #[.slice A3 P.length c3] 22)) A3 c3 P):=Lib.hid ((NewVX.of hnew hpl hszr (fun g hg=>(HT.out.1.lt g hg).2)).ext ((Below.refl _ _).alloc (Nat.le_refl _) _))
    have HTA:=Lib.hid (HT2.out.ext ((Below.refl _ _).alloc (Nat.le_refl _) (.cells #[.slice A3 P.length c3] 22)))
    have HRN:Hid (Rd (w2.alloc (.cells #[.slice A3 P.length c3] 22)) (w2.heap.size+1) 1 (some ⟨w2.heap.size,0,none⟩) 1 (cellsT [(P,A3,c3)])):=Rd.new w2 22 #[.slice A3 P.length c3] (s:=1) (n:=1) rfl
    have HL3:=Lib.hid hl3
    clear hb2 hnew hl3 d0 d1 d2
    go_wp2_with (at_builtin;refine app_trees rfl _ _ rfl w1.heap.size _ ts.length ts rfl HTA.out.1 _ _ _ _ [(P,A3,c3)] rfl HRN.out (by omega) (by simp;omega) ?_)
    intro v4 w4 hown4 hg4 hbk
    have HT4:=Lib.hid (RowT.app HTA.out ⟨hpl,HL3.out,HNX.out⟩ hown4 hg4 (by simpa using hbk))
    have HX4:Hid (Below w1.heap.size w1 w4):=(X2.out.alloc X2.out.size _).grown hg4 (by have:=X2.out.size;simp;omega) (fun q hq=>(HT.out.1.lt q hq).1)
    clear hown4 hg4 hbk
    go_wp2
    go_roundw
    case rel=>exact⟨j+1,ts++[(P,A3,c3)],by omega,by go_num,by rw [HBS.out],HX4,Lib.hid (by rw [HES.out,List.map_append,HM.out];rfl),HT4,by rw [List.length_append];simp;omega⟩
    case measure=>simp [intOf];omega
   ·rw [hk2] at d1
    rw [if_neg (by omega)] at HES
    have hk21:decide (n.kind=1)=false:=decide_eq_false (by omega)
    rw [hk21,Bool.false_or] at HBS
    have HTR:=Lib.hid (fun W=>refblank_any n.text W htz)
    clear HS hk21
    generalize blanksK v (ks.take j)=bb at *
    generalize blankI n.text=bq at *
    cases bb
    ·go_wp2
     go_roundw
     case rel=>exact⟨j+1,ts,by omega,by go_num,by rw [HBS.out];rfl,HB,Lib.hid (by rw [HES.out];exact HM.out),HT,by omega⟩
     case measure=>simp [intOf];omega
    ·go_wp2_with fail
     refine(HTR.out _).mono ?_
     rintro e2 w2 ⟨rfl,hw2⟩
     subst hw2
     go_wp2
     go_roundw
     case rel=>exact⟨j+1,ts,by omega,by go_num,by rw [HBS.out];rfl,HB,Lib.hid (by rw [HES.out];exact HM.out),HT,by omega⟩
     case measure=>simp [intOf];omega
  ·obtain rfl:j=ks.length:=by omega
   rw [List.take_length] at HM ⊢
   have HLE:=Lib.hid (own_le HT.out.1)
   have HEM:Hid (ts.map (·.1)=EL):=Lib.hid (by rw [HM.out,HEL.out])
   have HLN:Hid (ts.length=EL.length):=Lib.hid (by rw [←HEM.out,List.length_map])
   go_wp2
   go_ret2
   refine⟨A2,c2,ts,by rw [HBL.out,←HLN.out];rfl,by rw [←HLN.out];exact HLE.out,HEM.out,?_,HBW.out⟩
   rw [←HLN.out]
   refine⟨own_mono HT.out.1 X1.out.size,fun x hx=>?_⟩
   obtain⟨q1,q2,l,q3,q4,q5,q6⟩:=HT.out.2 x hx
   exact⟨q1,q2,l,q3,own_mono q4 X1.out.size,q5,fun i y hi=>⟨(q6 i y hi).1,fun h00=>by
    obtain⟨b',off',e1,e2,e3⟩:=(q6 i y hi).2 h00
    exact⟨b',off',e1,Nat.le_trans X1.out.size e2,e3⟩⟩⟩
end Go.Proofs.YtnmnpnofdgdigaaGreatDoor
end
section
namespace Go.Proofs.YtnmnpnofdgdigaaGreatDoor
def isDig (c:Int):Bool:=decide (48≤c∧c≤57)
def valK (l:List Int):Nat→Int
 | 0=>0
 | k+1=>10*valK l k+(l.getD k 0 - 48)
def digK (l:List Int) (k:Nat):Bool:=(List.range k).all fun i=>isDig (l.getD i 0)
theorem digK_succ (l:List Int) (k:Nat):digK l (k+1)=(digK l k && isDig (l.getD k 0)):=by
 unfold digK
 rw [List.range_succ,List.all_append]
 simp
theorem digK_no {l:List Int} {k n:Nat} (hk:k < n) (h:isDig (l.getD k 0)=false):digK l n=false:=by
 unfold digK
 rw [List.all_eq_false]
 exact⟨k,List.mem_range.2 hk,by simp only [h];decide⟩
theorem valK_bd (l:List Int):∀k,digK l k=true→0≤valK l k∧valK l k < (10:Int) ^ k
 | 0,_=>⟨Int.le_refl _,by show(0:Int) < 1;omega⟩
 | k+1,h=>by
  rw [digK_succ,Bool.and_eq_true] at h
  have ih:=valK_bd l k h.1
  have hd:=h.2
  unfold isDig at hd
  rw [decide_eq_true_eq] at hd
  rw [Int.pow_succ]
  unfold valK
  generalize valK l k=v at *
  generalize (10:Int) ^ k=p at *
  omega
theorem pow_le15:∀k:Nat,k≤15→(10:Int) ^ k≤1000000000000000:=by
 intro k hk
 have:k=0∨k=1∨k=2∨k=3∨k=4∨k=5∨k=6∨k=7∨k=8∨k=9∨k=10∨k=11∨k=12∨k=13∨k=14∨k=15:=by omega
 rcases this with rfl|rfl|rfl|rfl|rfl|rfl|rfl|rfl|rfl|rfl|rfl|rfl|rfl|rfl|rfl|rfl <;> decide
def headOK (s:ByteArray):Bool:=!decide (s.size=0) && !decide (16 < s.size) && !(decide ((numsOf s).getD 0 0=48) && !decide (s.size=1))
def numOK (s:ByteArray):Bool:=headOK s && digK (numsOf s) s.size && !decide (9007199254740991 < valK (numsOf s) s.size)
def numV (s:ByteArray):Int:=if numOK s then valK (numsOf s) s.size else 0
def numE (s:ByteArray):Int:=if numOK s then 0 else 60
theorem numV_bd (s:ByteArray):0≤numV s∧numV s≤9007199254740991:=by
 unfold numV
 split
 ·rename_i h
  unfold numOK at h
  simp only [Bool.and_eq_true,Bool.not_eq_true',decide_eq_false_iff_not] at h
  have:=valK_bd _ _ h.1.2
  omega
 ·omega
theorem num_no {s:ByteArray} (h:numOK s=false):numV s=0∧numE s=60:=by unfold numV numE;rw [h];exact⟨rfl,rfl⟩
theorem num_yes {s:ByteArray} (h:numOK s=true):numV s=valK (numsOf s) s.size∧numE s=0:=by unfold numV numE;rw [h];exact⟨rfl,rfl⟩
theorem one_byte {s:ByteArray} (h:s.size=1) (h0:(numsOf s).getD 0 0=48):s.toList=[48]:=by
 rw [ByteArray.toList_eq s]
 have hl:s.data.toList.length=1:=by cases s;exact h
 unfold numsOf at h0
 cases e:s.data.toList with
 | nil=>rw [e] at hl;simp at hl
 | cons c t=>
  rw [e] at hl h0
  have ht:t=[]:=List.eq_nil_of_length_eq_zero (by simpa using hl)
  subst ht
  simp at h0
  have:c=48:=by
   have hc:c.toNat=48:=by omega
   exact UInt8.toNat_inj.1 hc
  rw [this]
theorem more_bytes {s:ByteArray} (h:¬s.size=1):(s.toList == [48])=false:=by
 rw [beq_eq_false_iff_ne]
 intro e
 apply h
 have:s.toList.length=s.size:=by rw [ByteArray.toList_eq s];cases s;rfl
 rw [←this,e]
 rfl
def levT (s:ByteArray):ByteArray:=if (numsOf s).getD 0 0=45 then s.extract 1 s.size else s
def levS (s:ByteArray):Int:=if (numsOf s).getD 0 0=45 then -1 else 1
def levOK (s:ByteArray):Bool:=numOK (levT s) && decide (-128≤levS s*numV (levT s)∧levS s*numV (levT s)≤127) && !(decide (levS s < 0) && decide (numV (levT s)=0))
def levV (s:ByteArray):Int:=if levOK s then levS s*numV (levT s) else 0
def levE (s:ByteArray):Int:=if levOK s then 0 else 60
end Go.Proofs.YtnmnpnofdgdigaaGreatDoor
end
section
namespace Go.Proofs.YtnmnpnofdgdigaaGreatDoor
theorem str_drop1 (s:ByteArray):numsOf (s.extract 1 s.size)=(numsOf s).drop 1:=by
 unfold numsOf
 rw [ByteArray.data_extract,Array.toList_extract]
 rw [←List.map_drop]
 congr 1
 have:s.data.toList.length=s.size:=by cases s;rfl
 simp [List.take_of_length_le,this]
def digF:Nat→Nat→List Int
 | 0,n=>[48+(n:Int) % 10]
 | f+1,n=>if n≤9 then [48+(n:Int)] else digF f (n / 10)++[48+(n:Int) % 10]
def digS (n:Nat):ByteArray:=strOfNums (digF 19 n)
theorem digF_b8:∀(f n:Nat),B8 (digF f n)
 | 0,n=>fun x hx=>by
  unfold digF at hx
  rw [List.mem_singleton.1 hx]
  omega
 | f+1,n=>fun x hx=>by
  unfold digF at hx
  split at hx
  ·rw [List.mem_singleton.1 hx]
   omega
  ·rcases List.mem_append.1 hx with h|h
   ·exact digF_b8 f _ x h
   ·rw [List.mem_singleton.1 h]
    omega
theorem digF_small (f n:Nat) (h:n≤9):digF f n=[48+(n:Int)]:=by
 cases f with
 | zero=>
  unfold digF
  rw [show(n:Int) % 10=n by omega]
 | succ f=>
  unfold digF
  rw [if_pos h]
theorem digF_big (f n:Nat) (h:¬n≤9):digF (f+1) n=digF f (n / 10)++[48+(n:Int) % 10]:=by
 rw [digF,if_neg h]
theorem digF_val (l:List Int) (h0:l.getD 0 0≠48):∀k f,1≤k→k≤f+1→k≤l.length→digK l k=true→digF f (valK l k).toNat=l.take k∧1≤valK l k
 | 0,_,h,_,_,_=>by omega
 | k+1,f,_,hf,hl,hd=>by
  rw [digK_succ,Bool.and_eq_true] at hd
  have hb:=valK_bd l k hd.1
  have hc:=hd.2
  unfold isDig at hc
  rw [decide_eq_true_eq] at hc
  have hx:l[k]? = some (l.getD k 0):=by rw [List.getD_eq_getElem?_getD,List.getElem?_eq_getElem (by omega)];rfl
  have ht:l.take (k+1)=l.take k++[l.getD k 0]:=by rw [List.take_add_one,hx];rfl
  have hv:valK l (k+1)=10*valK l k+(l.getD k 0 - 48):=rfl
  rw [ht,hv]
  rcases Nat.eq_zero_or_pos k with hk|hk
  ·subst hk
   have e0:valK l 0=0:=rfl
   rw [e0]
   refine⟨?_,by omega⟩
   rw [digF_small _ _ (by omega)]
   simp only [List.take_zero,List.nil_append,List.cons.injEq,and_true]
   omega
  ·obtain⟨f',rfl⟩:∃f',f=f'+1:=⟨f - 1,by omega⟩
   have ih:=digF_val l h0 k f' hk (by omega) (by omega) hd.1
   have hq:(10*valK l k+(l.getD k 0 - 48)).toNat / 10=(valK l k).toNat:=by omega
   refine⟨?_,by omega⟩
   rw [digF_big _ _ (by omega),hq,ih.1]
   congr 2
   omega
theorem dig_of_num {s:ByteArray} (h:numOK s=true):s=digS (numV s).toNat:=by
 have hv:=(num_yes h).1
 unfold numOK headOK at h
 simp only [Bool.and_eq_true,Bool.not_eq_true',decide_eq_false_iff_not,Bool.and_eq_false_iff] at h
 obtain⟨⟨⟨⟨hz,h16⟩,hh⟩,hd⟩,-⟩:=h
 have hlen:=numsOf_length s
 apply numsOf_inj
 unfold digS
 rw [numsOf_str (digF_b8 _ _),hv]
 by_cases h48:(numsOf s).getD 0 0=48
 ·have h1:s.size=1:=by
   rcases hh with h|h
   ·exact absurd h48 h
   ·simpa using h
  have hl:(numsOf s).length=1:=by omega
  have e:numsOf s=[48]:=by
   cases hn:numsOf s with
   | nil=>rw [hn] at hl;simp at hl
   | cons c t=>
    rw [hn] at hl h48
    have:t=[]:=List.eq_nil_of_length_eq_zero (by simpa using hl)
    subst this
    simp at h48
    rw [h48]
  rw [e,h1]
  decide
 ·have h2:=(digF_val (numsOf s) h48 s.size 19 (by omega) (by omega) (by omega) hd).1
  rw [h2,List.take_of_length_le (by omega)]
def signS (n:Int):ByteArray:=if n < 0 then strOfNums (45 :: digF 19 (-n).toNat) else digS n.toNat
theorem lev_of_sign:∀k:Fin 256,levOK (signS ((k.val:Int) - 128))=true∧levV (signS ((k.val:Int) - 128))=(k.val:Int) - 128:=by decide +kernel
theorem sign_of_lev {s:ByteArray} (h:levOK s=true):s=signS (levV s)∧-128≤levV s∧levV s≤127:=by
 have hv:levV s=levS s*numV (levT s):=by unfold levV;rw [if_pos h]
 unfold levOK at h
 simp only [Bool.and_eq_true,Bool.not_eq_true',decide_eq_true_eq,Bool.and_eq_false_iff,decide_eq_false_iff_not] at h
 obtain⟨⟨ho,hr⟩,hz⟩:=h
 have ht:=dig_of_num ho
 have hb:=numV_bd (levT s)
 rw [hv]
 refine⟨?_,hr.1,hr.2⟩
 by_cases hneg:(numsOf s).getD 0 0=45
 ·have hT:levT s=s.extract 1 s.size:=by unfold levT;rw [if_pos hneg]
  have hS:levS s=-1:=by unfold levS;rw [if_pos hneg]
  rw [hS] at hr hz ⊢
  have hn0:¬numV (levT s)=0:=by
   rcases hz with h|h
   ·omega
   ·exact h
  unfold signS
  rw [if_pos (by omega),show(-(-1*numV (levT s))).toNat=(numV (levT s)).toNat by omega]
  apply numsOf_inj
  have hd:numsOf (levT s)=digF 19 (numV (levT s)).toNat:=by
   conv=>lhs;rw [ht]
   exact numsOf_str (digF_b8 _ _)
  rw [numsOf_str (fun x hx=>by
   rcases List.mem_cons.1 hx with rfl|hx
   ·omega
   ·exact digF_b8 _ _ x hx),←hd,hT]
  have hl:=numsOf_length s
  have he:numsOf (s.extract 1 s.size)=(numsOf s).drop 1:=by
   have h1:=str_drop1 s
   exact h1
  rw [he]
  cases hn:numsOf s with
  | nil=>rw [hn] at hneg;simp at hneg
  | cons c t=>
   rw [hn] at hneg
   simp at hneg
   rw [hneg]
   rfl
 ·have hT:levT s=s:=by unfold levT;rw [if_neg hneg]
  have hS:levS s=1:=by unfold levS;rw [if_neg hneg]
  rw [hS] at hr ⊢
  rw [hT] at ht hb ⊢
  unfold signS
  rw [if_neg (by omega),show(1*numV s).toNat=(numV s).toNat by omega]
  exact ht
theorem lev_at {s:ByteArray} {k:Nat} (hk:k < 256) (h:s.toList=(signS ((k:Int) - 128)).toList):levOK s=true∧levV s=(k:Int) - 128:=by
 have e:s=signS ((k:Int) - 128):=by
  apply ByteArray.ext
  apply Array.ext'
  rw [←ByteArray.toList_eq,←ByteArray.toList_eq]
  exact h
 have:=lev_of_sign ⟨k,hk⟩
 rw [e]
 exact this
end Go.Proofs.YtnmnpnofdgdigaaGreatDoor
end
section
namespace Go.Proofs.YtnmnpnofdgdigaaGreatDoor
open Go.RowKit
set_option linter.unusedSimpArgs false
set_option linter.unusedVariables false
theorem from_num (n a b:Int) (w:World):Calls Tryz.prog 101 #[.int .i64 n,.int .i64 a,.int .i64 b] w fun e w'=>e=.returned (.bool (decide (a≤n∧n≤b)))∧w=w':=by
 by_cases h1:a≤n
 ·by_cases h2:n≤b
  ·have hq:decide (a≤n∧n≤b)=true:=decide_eq_true ⟨h1,h2⟩
   rw [hq]
   clear hq
   go_enter Tryz.func101,Tryz.ntmps101
   go_wp2
   go_ret
   exact⟨rfl,rfl⟩
  ·have hq:decide (a≤n∧n≤b)=false:=decide_eq_false (fun h=>h2 h.2)
   rw [hq]
   clear hq
   go_enter Tryz.func101,Tryz.ntmps101
   go_wp2
   go_ret
   exact⟨rfl,rfl⟩
 ·have hq:decide (a≤n∧n≤b)=false:=decide_eq_false (fun h=>h1 h.1)
  rw [hq]
  clear hq
  go_enter Tryz.func101,Tryz.ntmps101
  go_wp2
  go_ret
  exact⟨rfl,rfl⟩
def ReadP (s:ByteArray) (w:World) (e:Ending) (w':World):Prop:=e=.returned (.tuple #[.int .i64 (numV s),.int .i64 (numE s)])∧Below w.heap.size w w'
theorem ReadP.no {s:ByteArray} {w w':World} (h:numOK s=false) (hb:Below w.heap.size w w'):ReadP s w (.returned (.tuple #[.int .i64 0,.int .i64 60])) w':=by
 unfold ReadP
 rw [(num_no h).1,(num_no h).2]
 exact⟨rfl,hb⟩
theorem ReadP.yes {s:ByteArray} {w w':World} {v:Int} (h:numOK s=true) (hv:v=valK (numsOf s) s.size) (hb:Below w.heap.size w w'):ReadP s w (.returned (.tuple #[.int .i64 v,.int .i64 0])) w':=by
 unfold ReadP
 rw [(num_yes h).1,(num_yes h).2,hv]
 exact⟨rfl,hb⟩
theorem num_head {s:ByteArray} (h:headOK s=false):numOK s=false:=by unfold numOK;rw [h];rfl
theorem num_dig {s:ByteArray} (h:digK (numsOf s) s.size=false):numOK s=false:=by unfold numOK;rw [h,Bool.and_false];rfl
theorem num_big {s:ByteArray} (h:9007199254740991 < valK (numsOf s) s.size):numOK s=false:=by unfold numOK;rw [decide_eq_true h];simp
theorem num_all {s:ByteArray} (h0:headOK s=true) (h1:digK (numsOf s) s.size=true) (h2:¬9007199254740991 < valK (numsOf s) s.size):numOK s=true:=by unfold numOK;rw [h0,h1,decide_eq_false h2];rfl
set_option maxHeartbeats 4000000 in
set_option maxRecDepth 10000 in
theorem numread_any (s:ByteArray) (w:World) (hs:s.size≤1000000000):Calls Tryz.prog 100 #[.string s] w (ReadP s w):=by
 have HHO:Box (headOK s=(!decide (s.size=0) && !decide (16 < s.size) && !(decide ((numsOf s).getD 0 0=48) && !decide (s.size=1)))):=⟨rfl⟩
 by_cases h0:s.size=0
 ·have he:=str_em s h0
  have HE:=Lib.hid (num_head (s:=s) (by rw [HHO.out,decide_eq_true h0];rfl))
  clear h0 HHO
  go_enter Tryz.func100,Tryz.ntmps100
  go_wp2
  go_step3
  go_wp2
  try rw [Exit.noGoto_ret]
  go_ret2
  exact ReadP.no HE.out (Below.refl _ _)
 ·have he:=str_ne s (by omega)
  have hpos:0 < s.size:=by omega
  by_cases h16:16 < s.size
  ·have HE:=Lib.hid (num_head (s:=s) (by rw [HHO.out,decide_eq_false h0,decide_eq_true h16];rfl))
   clear h0 HHO
   have h16':(16:Int) < (s.size:Int):=by omega
   go_enter Tryz.func100,Tryz.ntmps100
   go_wp2
   go_step3
   go_wp2
   try rw [Exit.noGoto_ret]
   go_ret2
   exact ReadP.no HE.out (Below.refl _ _)
  ·have h16':¬(16:Int) < (s.size:Int):=by omega
   have hx0:=at_eq s 0 hpos
   have hxl:=b_lt s 0
   have hn0:=nums_at s 0 hpos
   by_cases h48:b_at s 0=48
   ·have h48':((b_at s 0:Int) == 48)=true:=by rw [beq_iff_eq];omega
    by_cases h1:s.size=1
    ·have hz:=one_byte h1 (by rw [hn0];omega)
     have HH:=Lib.hid (show headOK s=true by rw [HHO.out,decide_eq_false h0,decide_eq_false h16,decide_eq_true h1];simp)
     have hz1:(s.toList == [48])=true:=by rw [hz];rfl
     have hz2:(s.toList != [48])=false:=by rw [bne,hz1];rfl
     clear h0 HHO hn0 hz h48 h1
     obtain⟨c,w1,hconv,hrow,hb⟩:=row_of_string w s
     have HROW:=Lib.hid hrow
     have HB:=Lib.hid hb
     clear hrow hb
     go_enter Tryz.func100,Tryz.ntmps100
     go_wp2
     go_step3
     go_wp2
     go_step3
     go_wp2
     go_loop [2,4,6,7,27,38] (fun s2 s4 _ _ s27 _=>∃(k:Nat) (v:Int),k≤s.size∧s27=.int .i64 k∧s2=.int .i64 v∧s4=.bool false∧(0≤v∧v≤9999999999999999)∧Hid (v=valK (numsOf s) k)∧Hid (digK (numsOf s) k=true)) (fun _ _ _ _ s27 _=>s.size - (intOf s27).toNat)
     case atStart=>exact⟨0,0,Nat.zero_le _,rfl,rfl,rfl,⟨by omega,by omega⟩,Lib.hid rfl,Lib.hid rfl⟩
     case round=>
      obtain⟨k,v,hk,rfl,rfl,rfl,⟨hv0,hv1⟩,HV,HD⟩:=hrel
      by_cases hlt:k < s.size
      ·obtain⟨x,hx⟩:∃x,(numsOf s)[k]? = some x:=⟨_,List.getElem?_eq_getElem (by rw [numsOf_length];exact hlt)⟩
       have d0:=HROW.out.cell hx
       obtain⟨x0,x1⟩:=numsOf_b8 s x (List.mem_of_getElem? hx)
       have HX:Hid ((numsOf s).getD k 0=x):=Lib.hid (by rw [List.getD_eq_getElem?_getD,hx];rfl)
       have hv2:v≤999999999999999:=by
        have h1:=(valK_bd _ _ HD.out).2
        have h2:=pow_le15 k (by omega)
        have h3:=HV.out
        omega
       clear hx
       by_cases hx1:x < 48
       ·have HE:=Lib.hid (num_dig (digK_no hlt (by rw [HX.out];unfold isDig;exact decide_eq_false (by omega))))
        go_wp2
        try rw [Exit.noGoto_ret]
        go_ret2
        exact ReadP.no HE.out HB.out
       ·by_cases hx2:57 < x
        ·have HE:=Lib.hid (num_dig (digK_no hlt (by rw [HX.out];unfold isDig;exact decide_eq_false (by omega))))
         go_wp2
         try rw [Exit.noGoto_ret]
         go_ret2
         exact ReadP.no HE.out HB.out
        ·have HV2:Hid (10*v+(x - 48)=valK (numsOf s) (k+1)):=Lib.hid (by
          show _=10*valK (numsOf s) k+((numsOf s).getD k 0 - 48)
          rw [←HV.out,HX.out])
         have HD2:Hid (digK (numsOf s) (k+1)=true):=Lib.hid (by rw [digK_succ,HD.out,HX.out];unfold isDig;exact decide_eq_true (by omega))
         go_wp2
         go_round
         case rel=>exact⟨k+1,10*v+(x - 48),by omega,by go_num,rfl,rfl,⟨by omega,by omega⟩,HV2,HD2⟩
         case measure=>simp [intOf];omega
      ·obtain rfl:k=s.size:=by omega
       by_cases hbig:9007199254740991 < v
       ·have HE:=Lib.hid (num_big (s:=s) (by rw [←HV.out];exact hbig))
        go_wp2
        try rw [Exit.noGoto_ret]
        go_ret2
        exact ReadP.no HE.out HB.out
       ·have HE:=Lib.hid (num_all HH.out HD.out (by rw [←HV.out];exact hbig))
        go_wp2
        try rw [Exit.noGoto_ret]
        go_ret2
        exact ReadP.yes HE.out HV.out HB.out
    ·have hz1:=more_bytes h1
     have hz2:(s.toList != [48])=true:=by rw [bne,hz1];rfl
     have HE:=Lib.hid (num_head (s:=s) (by rw [HHO.out,decide_eq_false h0,decide_eq_false h16,decide_eq_false h1,hn0,decide_eq_true (show((b_at s 0:Nat):Int)=48 by omega)];rfl))
     clear h0 HHO hn0 h48 h1
     go_enter Tryz.func100,Tryz.ntmps100
     go_wp2
     go_step3
     go_wp2
     try rw [Exit.noGoto_ret]
     go_ret2
     exact ReadP.no HE.out (Below.refl _ _)
   ·have h48':((b_at s 0:Int) == 48)=false:=by rw [beq_eq_false_iff_ne];omega
    have HH:=Lib.hid (show headOK s=true by rw [HHO.out,decide_eq_false h0,decide_eq_false h16,hn0,decide_eq_false (show ¬((b_at s 0:Nat):Int)=48 by omega)];rfl)
    clear h0 HHO hn0 h48
    obtain⟨c,w1,hconv,hrow,hb⟩:=row_of_string w s
    have HROW:=Lib.hid hrow
    have HB:=Lib.hid hb
    clear hrow hb
    go_enter Tryz.func100,Tryz.ntmps100
    go_wp2
    go_step3
    go_wp2
    go_step3
    go_wp2
    go_loop [2,4,6,7,27,38] (fun s2 s4 _ _ s27 _=>∃(k:Nat) (v:Int),k≤s.size∧s27=.int .i64 k∧s2=.int .i64 v∧s4=.bool false∧(0≤v∧v≤9999999999999999)∧Hid (v=valK (numsOf s) k)∧Hid (digK (numsOf s) k=true)) (fun _ _ _ _ s27 _=>s.size - (intOf s27).toNat)
    case atStart=>exact⟨0,0,Nat.zero_le _,rfl,rfl,rfl,⟨by omega,by omega⟩,Lib.hid rfl,Lib.hid rfl⟩
    case round=>
     obtain⟨k,v,hk,rfl,rfl,rfl,⟨hv0,hv1⟩,HV,HD⟩:=hrel
     by_cases hlt:k < s.size
     ·obtain⟨x,hx⟩:∃x,(numsOf s)[k]? = some x:=⟨_,List.getElem?_eq_getElem (by rw [numsOf_length];exact hlt)⟩
      have d0:=HROW.out.cell hx
      obtain⟨x0,x1⟩:=numsOf_b8 s x (List.mem_of_getElem? hx)
      have HX:Hid ((numsOf s).getD k 0=x):=Lib.hid (by rw [List.getD_eq_getElem?_getD,hx];rfl)
      have hv2:v≤999999999999999:=by
       have h1:=(valK_bd _ _ HD.out).2
       have h2:=pow_le15 k (by omega)
       have h3:=HV.out
       omega
      clear hx
      by_cases hx1:x < 48
      ·have HE:=Lib.hid (num_dig (digK_no hlt (by rw [HX.out];unfold isDig;exact decide_eq_false (by omega))))
       go_wp2
       try rw [Exit.noGoto_ret]
       go_ret2
       exact ReadP.no HE.out HB.out
      ·by_cases hx2:57 < x
       ·have HE:=Lib.hid (num_dig (digK_no hlt (by rw [HX.out];unfold isDig;exact decide_eq_false (by omega))))
        go_wp2
        try rw [Exit.noGoto_ret]
        go_ret2
        exact ReadP.no HE.out HB.out
       ·have HV2:Hid (10*v+(x - 48)=valK (numsOf s) (k+1)):=Lib.hid (by
         show _=10*valK (numsOf s) k+((numsOf s).getD k 0 - 48)
         rw [←HV.out,HX.out])
        have HD2:Hid (digK (numsOf s) (k+1)=true):=Lib.hid (by rw [digK_succ,HD.out,HX.out];unfold isDig;exact decide_eq_true (by omega))
        go_wp2
        go_round
        case rel=>exact⟨k+1,10*v+(x - 48),by omega,by go_num,rfl,rfl,⟨by omega,by omega⟩,HV2,HD2⟩
        case measure=>simp [intOf];omega
     ·obtain rfl:k=s.size:=by omega
      by_cases hbig:9007199254740991 < v
      ·have HE:=Lib.hid (num_big (s:=s) (by rw [←HV.out];exact hbig))
       go_wp2
       try rw [Exit.noGoto_ret]
       go_ret2
       exact ReadP.no HE.out HB.out
      ·have HE:=Lib.hid (num_all HH.out HD.out (by rw [←HV.out];exact hbig))
       go_wp2
       try rw [Exit.noGoto_ret]
       go_ret2
       exact ReadP.yes HE.out HV.out HB.out
end Go.Proofs.YtnmnpnofdgdigaaGreatDoor
end
