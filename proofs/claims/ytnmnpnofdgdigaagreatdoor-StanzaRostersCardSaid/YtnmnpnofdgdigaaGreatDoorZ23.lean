/- Part 23 of a proof laid in parts, one behind the other; no condition of its own. -/
import Derived.Test.YtnmnpnofdgdigaaGreatDoorZ22
set_option linter.all false
section
namespace Go.Proofs.YtnmnpnofdgdigaaGreatDoor
open Go.RowKit
set_option linter.unusedSimpArgs false
set_option linter.unusedVariables false
set_option maxHeartbeats 16000000 in
set_option maxRecDepth 10000 in
theorem sroster_any (l:List ItemL) (gone:Bool) (ver:Int) (A:Option Addr) (c:Nat) (w:World) (hz:SzL l) (hr:RdI w A l) (hc:l.length≤c) (hg:Glb w) (hp:Pow w) :
  Calls Tryz.prog 27 #[.slice A l.length c,.bool gone,.int .i64 ver] w (RosPost l gone ver w):=by
 have HWR:=Lib.hid (nwrite_any ver w hp)
 unfold numW numWE at HWR
 have HRC:=Lib.hid (fun W (hW:Below w.heap.size w W)=>rcheck_any l A c W hz (hr.ext hW) hc (hg.below hW))
 unfold rosErr at HRC
 have EC:=Lib.hid (enters_of (P:=Tryz.prog) Tryz.func66 (by kernel_rfl) rfl)
 have HNO:=Lib.hid (fun w'=>@ros_no l gone ver w w')
 have HOK:=Lib.hid (@ros_ok l gone ver)
 have HII:=Lib.hid (@rosI_item l)
 have HSI:=Lib.hid (fun(h:rosI l=true)=>items_szw hz h gone)
 have HQP:=Lib.hid (@query_put l gone ver)
 have HZ:=Lib.hid hz
 have HR:=Lib.hid hr
 have hln:=hz.1
 clear hz hr hg hp
 cases hv:decide (0≤ver∧ver≤9007199254740991)
 ·rw [hv] at HWR HNO
  simp only [Bool.false_eq_true,if_false,Bool.false_and] at HWR HNO
  clear hv
  generalize rosI l=q at *
  go_enter Tryz.func27,Tryz.ntmps27
  go_wp2_with fail
  refine HWR.out.mono ?_
  rintro e w1 ⟨rfl,hb1⟩
  have X1:=Lib.hid hb1
  clear hb1
  go_wp2
  go_ret2
  exact HNO.out _ trivial X1.out
 ·rw [hv] at HWR HNO HOK
  simp only [if_true,Bool.true_and] at HWR HNO HOK
  clear hv
  cases hq:rosI l
  ·rw [hq] at HRC HNO
   simp only [Bool.false_eq_true,if_false,Bool.false_and] at HRC HNO
   clear hq
   go_enter Tryz.func27,Tryz.ntmps27
   go_wp2_with fail
   refine HWR.out.mono ?_
   rintro e w1 ⟨rfl,hb1⟩
   have X1:=Lib.hid hb1
   clear hb1
   go_wp2_with fail
   refine(HRC.out _ X1.out).mono ?_
   rintro e w2 ⟨rfl,hb2⟩
   have X2:=Lib.hid (X1.out.trans (hb2.mono X1.out.size))
   clear hb2
   go_wp2
   go_ret2
   exact HNO.out _ trivial X2.out
  ·have HI1:=Lib.hid (HII.out hq)
   have HS1:=Lib.hid (HSI.out hq)
   have HQ1:=Lib.hid (HQP.out hq)
   have h16:=HI1.out.1
   rw [hq] at HRC HNO HOK
   simp only [if_true,Bool.true_and] at HRC HNO HOK
   clear hq HII HSI HQP
   have HFIN:Hid (gone=true→l.length≠1→∀w',Below w.heap.size w w'→RosPost l gone ver w (.returned (.tuple #[.slice none 0 0,.int .i64 2])) w'):=Lib.hid (fun h1 h2 w' hb=>HNO.out w' (by rw [h1,decide_eq_false h2];rfl) hb)
   by_cases hbad:gone=true∧l.length≠1
   ·obtain⟨rfl,h1⟩:=hbad
    have h1i:((l.length:Int) == 1)=false:=by simp;omega
    have h1j:((l.length:Int) != 1)=true:=by simp;omega
    go_enter Tryz.func27,Tryz.ntmps27
    go_wp2_with fail
    refine HWR.out.mono ?_
    rintro e w1 ⟨rfl,hb1⟩
    have X1:=Lib.hid hb1
    clear hb1
    go_wp2_with fail
    refine(HRC.out _ X1.out).mono ?_
    rintro e w2 ⟨rfl,hb2⟩
    have X2:=Lib.hid (X1.out.trans (hb2.mono X1.out.size))
    clear hb2
    go_wp2
    go_ret2
    exact HFIN.out (by first|trivial|rfl) h1 _ X2.out
   ·have HOK2:=Lib.hid (HOK.out (by
     cases gone
     ·rfl
     ·have:l.length=1:=by
       rcases Nat.decEq l.length 1 with h|h
       ·exact absurd ⟨rfl,h⟩ hbad
       ·exact h
      rw [decide_eq_true this];rfl))
    have hg1:gone=true→l.length=1:=fun hg=>by
     rcases Nat.decEq l.length 1 with h|h
     ·exact absurd ⟨hg,h⟩ hbad
     ·exact h
    have h1i:gone=false∨((l.length:Int) != 1)=false:=by
     cases gone
     ·exact .inl rfl
     ·exact .inr (by rw [hg1 rfl];rfl)
    clear hbad HNO HOK HFIN hg1
    have HIT2:=Lib.hid (fun(x:ItemL) (hx:x∈l) (B:Option Addr) (cb:Nat) (W:World) (h1:RdS W B x.groups) (h2:x.groups.length≤cb)=>sitem_any x gone B cb W (HZ.out.2 x hx) h1 h2 (HI1.out.2 x hx))
    have HPL2:=Lib.hid (fun(x:ItemL) (hx:x∈l)=>(show 0 < (itemT gone x).length by
     obtain⟨q1,q2,q3,q4,q5⟩:=(item_tre (HI1.out.2 x hx) gone).1
     rw [q4]
     exact Nat.succ_pos _))
    generalize itemT gone=tt at *
    cases gone
    all_goals
     try replace h1i:=h1i.resolve_left (by decide)
     go_enter Tryz.func27,Tryz.ntmps27
     go_wp2_with fail
     refine HWR.out.mono ?_
     rintro e w1 ⟨rfl,hb1⟩
     have X1:=Lib.hid hb1
     clear hb1
     go_wp2_with fail
     refine(HRC.out _ X1.out).mono ?_
     rintro e w2 ⟨rfl,hb2⟩
     have X2:=Lib.hid (X1.out.trans (hb2.mono X1.out.size))
     have R2:=Lib.hid (HR.out.ext X2.out)
     clear hb2 HRC HWR HR
     go_wp2
     clear h1i
     go_loopw [10,12,36] (fun s10 _ s36 wr=>∃(k:Nat) (ts:List TreeH),k≤l.length∧s36=.int .i64 k∧Hid (ts.length=k)∧Hid (Below w2.heap.size w2 wr)∧Hid (ts.map (·.1)=(l.take k).map tt)∧Hid (RowT w2.heap.size s10 wr ts)) (fun _ _ s36 _=>l.length - (intOf s36).toNat)
     case atStart=>exact⟨0,[],Nat.zero_le _,rfl,Lib.hid rfl,Lib.hid (Below.refl _ _),Lib.hid rfl,RowT.nil _ _⟩
     case round=>
      obtain⟨k,ts,hk,rfl,htk,HB,HM,HT⟩:=hrel
      obtain⟨A2,c2,rfl⟩:=own_form HT.out.1
      have hszr:=HB.out.size
      by_cases hlt:k < l.length
      ·obtain⟨x,hx⟩:∃x,l[k]? = some x:=⟨_,List.getElem?_eq_getElem hlt⟩
       have hxm:x∈l:=List.mem_of_getElem? hx
       have HTK:Hid ((l.take (k+1)).map tt=(l.take k).map tt++[tt x]):=Lib.hid (by rw [List.take_add_one,hx];simp)
       obtain⟨b,off,rfl,hb,hcc⟩:=(R2.out.ext HB.out) (by omega)
       obtain⟨A',c',hcell,hl',hA'⟩:=hcc k x hx
       have d0:=hcell 0 _ rfl
       have d1:=hcell 1 _ rfl
       have d2:=hcell 2 _ rfl
       have d3:=hcell 3 _ rfl
       have d4:=hcell 4 _ rfl
       have d5:=hcell 5 _ rfl
       have d6:=hcell 6 _ rfl
       have d7:=hcell 7 _ rfl
       rw [Nat.add_zero] at d0
       dsimp only [cI] at d0 d1 d2 d3 d4 d5 d6 d7
       obtain⟨W3,hW3⟩:∃W3,W3=wr.alloc (.cells (cI x A' c') 54):=⟨_,rfl⟩
       have hX3:Below wr.heap.size wr W3:=by rw [hW3];exact(Below.refl _ _).alloc (Nat.le_refl _) _
       have I3:Hid (Row W3 wr.heap.size (cI x A' c')):=Lib.hid (by rw [hW3];exact Row.new wr _ _)
       have B3:=Lib.hid (HB.out.trans (hX3.mono HB.out.size))
       have T3:=Lib.hid (HT.out.ext hX3)
       have HIT:=Lib.hid (HIT2.out x hxm A' c' W3 (RdS.ext hA' hX3) hl')
       have HPL:Hid (0 < (tt x).length):=Lib.hid (HPL2.out x hxm)
       unfold encT TwinPost at HIT
       unfold cI at hW3 HIT I3
       clear hcell hcc hA' hx hX3
       generalize tt x=G at *
       go_upto_region 8 with fail
       rw [←hW3]
       clear hW3 d0 d1 d2 d3 d4 d5 d6 d7
       have k0:W3.cell? ⟨wr.heap.size,0,none⟩=some _:=I3.out.at' 0 rfl
       have k1:W3.cell? ⟨wr.heap.size,1,none⟩=some _:=I3.out.at' 1 rfl
       have k2:W3.cell? ⟨wr.heap.size,2,none⟩=some _:=I3.out.at' 2 rfl
       have k3:W3.cell? ⟨wr.heap.size,3,none⟩=some _:=I3.out.at' 3 rfl
       have k4:W3.cell? ⟨wr.heap.size,4,none⟩=some _:=I3.out.at' 4 rfl
       have k5:W3.cell? ⟨wr.heap.size,5,none⟩=some _:=I3.out.at' 5 rfl
       have k6:W3.cell? ⟨wr.heap.size,6,none⟩=some _:=I3.out.at' 6 rfl
       have k7:W3.cell? ⟨wr.heap.size,7,none⟩=some _:=I3.out.at' 7 rfl
       go_wp2_with fail
       refine HIT.out.mono ?_
       rintro e w5 ⟨A5,c5,rfl,hl5,hn5,hb5⟩
       have B5:=Lib.hid (B3.out.trans (hb5.mono B3.out.size))
       have T5:=Lib.hid (T3.out.ext hb5)
       have hs5:=B5.out.size
       have hs3:=B3.out.size
       have HNX:Hid (NewVX w2.heap.size (.slice A2 ts.length c2) (w5.alloc (.cells #[.slice A5 G.length c5] 22)) A5 c5 G):=Lib.hid ((NewVX.of hn5 HPL.out hs3 (fun g hg=>(T3.out.1.lt g hg).2)).ext ((Below.refl _ _).alloc (Nat.le_refl _) _))
       have HTA:=Lib.hid (T5.out.ext ((Below.refl _ _).alloc (Nat.le_refl _) (.cells #[.slice A5 G.length c5] 22)))
       have HRN:Hid (Rd (w5.alloc (.cells #[.slice A5 G.length c5] 22)) (w5.heap.size+1) 1 (some ⟨w5.heap.size,0,none⟩) 1 (cellsT [(G,A5,c5)])):=Rd.new w5 22 #[.slice A5 G.length c5] (s:=1) (n:=1) rfl
       have HL5:=Lib.hid hl5
       clear hb5 hn5 hl5 HIT k0 k1 k2 k3 k4 k5 k6 k7
       go_wp2_with (at_builtin;refine app_trees rfl _ _ rfl w2.heap.size _ ts.length ts rfl HTA.out.1 _ _ _ _ [(G,A5,c5)] rfl HRN.out (by have:=htk.out;omega) (by simp;omega) ?_)
       intro v6 w6 hown6 hg6 hbk
       have T6:=Lib.hid (RowT.app HTA.out ⟨HPL.out,HL5.out,HNX.out⟩ hown6 hg6 (by simpa using hbk))
       have B6:Hid (Below w2.heap.size w2 w6):=(B5.out.alloc B5.out.size _).grown hg6 (by have:=B5.out.size;simp;omega) (fun q hq=>(HT.out.1.lt q hq).1)
       clear hown6 hg6 hbk
       go_wp2
       go_roundw
       case rel=>exact⟨k+1,ts++[(G,A5,c5)],by omega,by go_num,Lib.hid (by rw [List.length_append,htk.out];rfl),B6,Lib.hid (by rw [HTK.out,List.map_append,HM.out];rfl),T6⟩
       case measure=>simp [intOf];omega
      ·obtain rfl:k=l.length:=by omega
       have XR:=Lib.hid (X2.out.trans (HB.out.mono X2.out.size))
       have RW:Hid (RdW wr wr.heap.size A2 (l.map tt)):=Lib.hid (by have h:=HT.out.rdw rfl;rw [HM.out,List.take_length] at h;exact h)
       have htl:=htk.out
       obtain⟨W7,hW7⟩:∃W7,W7=wr.alloc (.cells #[.string (⟨#[118,101,114]⟩:ByteArray),.string (digS ver.toNat)] 9):=⟨_,rfl⟩
       have hX7:Below wr.heap.size wr W7:=by rw [hW7];exact(Below.refl _ _).alloc (Nat.le_refl _) _
       have HE7:=Lib.hid (elem_any rosN (⟨#[113,117,101,114,121]⟩:ByteArray) [(⟨#[118,101,114]⟩:ByteArray),digS ver.toNat] (some ⟨wr.heap.size,0,none⟩) 2 W7 (by rw [hW7];exact RdS.new wr 9 [(⟨#[118,101,114]⟩:ByteArray),digS ver.toNat]) (by simp))
       rw [pairs_query] at HE7
       unfold ElemE at HE7
       rw [query_at] at HE7
       have HQA:Hid (withA [] (⟨#[118,101,114]⟩:ByteArray) (digS ver.toNat)=(queryN ver).attrs):=Lib.hid (by rw [←query_at];rfl)
       rw [HQA.out] at HE7
       have X7:=Lib.hid (XR.out.trans (hX7.mono XR.out.size))
       have RW7:=Lib.hid (RdW.ext RW.out hX7)
       have HW7:=Lib.hid hW7
       have HQS:=Lib.hid (queryN_sz ver)
       clear hW7 hX7 RW HQA
       unfold rosN at HE7
       dsimp only [List.length_cons,List.length_nil] at HE7
       rw [htl]
       generalize digS ver.toNat=dv at *
       generalize queryN ver=qn at *
       go_wp2_with fail
       rw [←HW7.out]
       refine HE7.out.mono ?_
       rintro e w8 ⟨A8,c8,rfl,hl8,hn8,hb8⟩
       have X8:=Lib.hid (X7.out.trans (hb8.mono X7.out.size))
       have HP:=Lib.hid (put_node qn A8 c8 (l.map tt) A2 c2 w8 HQS.out hn8.rda hl8 HS1.out (RdW.ext RW7.out hb8))
       unfold PutPost at HP
       rw [HQ1.out.1,HQ1.out.2,List.length_map] at HP
       clear hl8 hn8 hb8 HE7 HW7
       unfold encN at HP ⊢
       go_wp2_with fail
       refine HP.out.mono ?_
       rintro e w9 ⟨A9,c9,rfl,hl9,hn9,hb9⟩
       have HN9:=Lib.hid (hn9.mono X8.out.size)
       have X9:=Lib.hid (X8.out.trans (hb9.mono X8.out.size))
       have HL9:=Lib.hid hl9
       clear hl9 hn9 hb9 HP
       go_wp2
       go_ret2
       unfold RosPost
       rw [HOK2.out.1,HOK2.out.2]
       exact⟨A9,c9,rfl,HL9.out,HN9.out,X9.out⟩
end Go.Proofs.YtnmnpnofdgdigaaGreatDoor
end
section
namespace Go.Proofs.YtnmnpnofdgdigaaGreatDoor
open Go.RowKit
set_option linter.unusedSimpArgs false
set_option linter.unusedVariables false
def SzK (x:ItemL):Prop:=x.jid.size≤500∧x.name.size≤500∧x.groups.length≤10∧∀g∈x.groups,g.size≤500
def SzM (l:List ItemL):Prop:=l.length≤18∧∀x∈l,SzK x
def GreatK (l:List ItemL) (w:World) (e:Ending) (w':World):Prop:=∃g,e=.returned (.bool g)∧Below w.heap.size w w'∧(g=false→SzM l)
theorem SzM.szl {l:List ItemL} (h:SzM l):SzL l:=⟨by have:=h.1;omega,fun x hx=>by
 obtain⟨h1,h2,h3,h4⟩:=h.2 x hx
 exact⟨by omega,by omega,by omega,fun g hg=>by have:=h4 g hg;omega⟩⟩
set_option maxHeartbeats 16000000 in
set_option maxRecDepth 10000 in
theorem refgreat21_any (l:List ItemL) (v:Int) (A:Option Addr) (c:Nat) (w:World) (hr:RdI w A l) (hc:l.length≤c) :
  Calls Tryz.prog 25 #[.agg #[.slice A l.length c,.int .i64 v]] w (GreatK l w):=by
 obtain⟨W0,hW0⟩:∃W0,W0=w.alloc (.cells #[.slice A l.length c,.int .i64 v] 67):=⟨_,rfl⟩
 have hX0:Below w.heap.size w W0:=by rw [hW0];exact(Below.refl _ _).alloc (Nat.le_refl _) _
 have R0:Hid (Row W0 w.heap.size #[.slice A l.length c,.int .i64 v]):=Lib.hid (by rw [hW0];exact Row.new w _ _)
 have HR:=Lib.hid (hr.ext hX0)
 have X0:=Lib.hid hX0
 clear hX0 hr
 go_enter Tryz.func25,Tryz.ntmps25
 go_upto_region 1 with fail
 rw [←hW0]
 clear hW0
 go_wp2
 go_loopw [3,4,5] (fun s3 _ _ wr=>∃k:Nat,k≤l.length∧k≤20∧s3=.int .i64 k∧Hid (Below W0.heap.size W0 wr)∧Hid (∀(i:Nat) (x:ItemL),i < k→l[i]? = some x→SzK x)) (fun s3 _ _ _=>l.length - (intOf s3).toNat)
 case atStart=>exact⟨0,Nat.zero_le _,Nat.zero_le _,rfl,Lib.hid (Below.refl _ _),Lib.hid (fun i x h=>absurd h (Nat.not_lt_zero _))⟩
 case round=>
  obtain⟨k,hk,hk20,rfl,HB,HS⟩:=hrel
  have XR:=Lib.hid (X0.out.trans (HB.out.mono X0.out.size))
  have Rr:=Lib.hid (R0.out.ext HB.out)
  have k0:wr.cell? ⟨w.heap.size,0,none⟩=some _:=Rr.out.at' 0 rfl
  have k1:wr.cell? ⟨w.heap.size,1,none⟩=some _:=Rr.out.at' 1 rfl
  by_cases hlt:k < l.length
  ·by_cases hlt2:k < 20
   ·obtain⟨x,hx⟩:∃x,l[k]? = some x:=⟨_,List.getElem?_eq_getElem hlt⟩
    have HX:=Lib.hid hx
    obtain⟨b,off,rfl,hb,hcc⟩:=(HR.out.ext HB.out) (by omega)
    obtain⟨A',c',hcell,hl',hA'⟩:=hcc k x hx
    have d0:=hcell 0 _ rfl
    have d1:=hcell 1 _ rfl
    have d2:=hcell 2 _ rfl
    have d3:=hcell 3 _ rfl
    have d4:=hcell 4 _ rfl
    have d5:=hcell 5 _ rfl
    have d6:=hcell 6 _ rfl
    have d7:=hcell 7 _ rfl
    rw [Nat.add_zero] at d0
    dsimp only [cI] at d0 d1 d2 d3 d4 d5 d6 d7
    obtain⟨W3,hW3⟩:∃W3,W3=wr.alloc (.cells (cI x A' c') 54):=⟨_,rfl⟩
    have hX3:Below wr.heap.size wr W3:=by rw [hW3];exact(Below.refl _ _).alloc (Nat.le_refl _) _
    have I3:Hid (Row W3 wr.heap.size (cI x A' c')):=Lib.hid (by rw [hW3];exact Row.new wr _ _)
    have B3:=Lib.hid (HB.out.trans (hX3.mono HB.out.size))
    have X3:=Lib.hid (XR.out.trans (hX3.mono XR.out.size))
    have GA:=Lib.hid (RdS.ext hA' hX3)
    have HS2:=Lib.hid (fun(h:SzK x)=>(show ∀(i:Nat) (y:ItemL),i < k+1→l[i]? = some y→SzK y from fun i y hi hy=>by
     rcases Nat.lt_or_ge i k with h1|h1
     ·exact HS.out i y h1 hy
     ·obtain rfl:i=k:=by omega
      rw [HX.out] at hy
      cases hy
      exact h))
    unfold cI at hW3 I3
    clear hcell hcc hA' hx hX3
    go_upto_region 5 with fail
    rw [←hW3]
    clear hW3 d0 d1 d2 d3 d4 d5 d6 d7 k0 k1
    unfold SzK at HS2
    generalize wr.heap.size=gr at *
    have k0:W3.cell? ⟨gr,0,none⟩=some _:=I3.out.at' 0 rfl
    have k1:W3.cell? ⟨gr,1,none⟩=some _:=I3.out.at' 1 rfl
    have k2:W3.cell? ⟨gr,2,none⟩=some _:=I3.out.at' 2 rfl
    have k3:W3.cell? ⟨gr,3,none⟩=some _:=I3.out.at' 3 rfl
    have k4:W3.cell? ⟨gr,4,none⟩=some _:=I3.out.at' 4 rfl
    have k5:W3.cell? ⟨gr,5,none⟩=some _:=I3.out.at' 5 rfl
    have k6:W3.cell? ⟨gr,6,none⟩=some _:=I3.out.at' 6 rfl
    have k7:W3.cell? ⟨gr,7,none⟩=some _:=I3.out.at' 7 rfl
    by_cases h1:x.jid.size≤500
    ·have h1i:¬((x.jid.size:Int) > 500):=by omega
     by_cases h2:x.name.size≤500
     ·have h2i:¬((x.name.size:Int) > 500):=by omega
      by_cases h3:x.groups.length≤10
      ·have h3i:¬((x.groups.length:Int) > 10):=by omega
       go_wp2
       clear k0 k1 k2 k3 k4 k5 k6 k7
       go_loopw [5] (fun s5 w5=>∃j:Nat,j≤x.groups.length∧s5=.int .i64 j∧Hid (Below W3.heap.size W3 w5)∧Hid (∀(i:Nat) (g:ByteArray),i < j→x.groups[i]? = some g→g.size≤500)) (fun s5 _=>x.groups.length - (intOf s5).toNat)
       case atStart=>exact⟨0,Nat.zero_le _,rfl,Lib.hid (Below.refl _ _),Lib.hid (fun i x h=>absurd h (Nat.not_lt_zero _))⟩
       case round=>
        obtain⟨j,hj,rfl,B5,H5⟩:=hrel
        have I5:=Lib.hid (I3.out.ext B5.out)
        have X5:=Lib.hid (X3.out.trans (B5.out.mono X3.out.size))
        have k0:wr.cell? ⟨gr,0,none⟩=some _:=I5.out.at' 0 rfl
        have k1:wr.cell? ⟨gr,1,none⟩=some _:=I5.out.at' 1 rfl
        have k2:wr.cell? ⟨gr,2,none⟩=some _:=I5.out.at' 2 rfl
        have k3:wr.cell? ⟨gr,3,none⟩=some _:=I5.out.at' 3 rfl
        have k4:wr.cell? ⟨gr,4,none⟩=some _:=I5.out.at' 4 rfl
        have k5:wr.cell? ⟨gr,5,none⟩=some _:=I5.out.at' 5 rfl
        have k6:wr.cell? ⟨gr,6,none⟩=some _:=I5.out.at' 6 rfl
        have k7:wr.cell? ⟨gr,7,none⟩=some _:=I5.out.at' 7 rfl
        by_cases hjl:j < x.groups.length
        ·obtain⟨g,hg⟩:∃g,x.groups[j]? = some g:=⟨_,List.getElem?_eq_getElem hjl⟩
         have HGG:=Lib.hid hg
         obtain⟨b6,off6,rfl,hb6,hc6⟩:=(GA.out.ext B5.out) (by omega)
         have e0:=hc6 j g hg
         clear hc6 hg
         by_cases h6:g.size≤500
         ·have h6i:¬((g.size:Int) > 500):=by omega
          go_wp2
          go_roundw
          case rel=>exact⟨j+1,by omega,by go_num,B5,Lib.hid (fun i y hi hy=>by
           rcases Nat.lt_or_ge i j with h1|h1
           ·exact H5.out i y h1 hy
           ·obtain rfl:i=j:=by omega
            rw [HGG.out] at hy
            cases hy
            exact h6)⟩
          case measure=>simp [intOf];omega
         ·have h6i:((g.size:Int) > 500):=by omega
          go_wp2
          go_ret
          exact⟨true,rfl,X5.out,fun h=>by cases h⟩
        ·obtain rfl:j=x.groups.length:=by omega
         have B55:=Lib.hid (B3.out.trans (B5.out.mono B3.out.size))
         go_wp2
         go_roundw
         case rel=>exact⟨k+1,by omega,by omega,by go_num,B55,Lib.hid (HS2.out ⟨h1,h2,h3,fun g hg=>by
          obtain⟨i,hi,rfl⟩:=List.mem_iff_getElem.1 hg
          exact H5.out i _ hi (List.getElem?_eq_getElem hi)⟩)⟩
         case measure=>simp [intOf];omega
      ·have h3i:((x.groups.length:Int) > 10):=by omega
       go_wp2
       go_ret
       exact⟨true,rfl,X3.out,fun h=>by cases h⟩
     ·have h2i:((x.name.size:Int) > 500):=by omega
      go_wp2
      go_ret
      exact⟨true,rfl,X3.out,fun h=>by cases h⟩
    ·have h1i:((x.jid.size:Int) > 500):=by omega
     go_wp2
     go_ret
     exact⟨true,rfl,X3.out,fun h=>by cases h⟩
   ·have h18:((l.length:Int) > 18):=by omega
    go_wp2
    go_ret
    exact⟨true,rfl,XR.out,fun h=>by cases h⟩
  ·obtain rfl:k=l.length:=by omega
   by_cases h18:l.length≤18
   ·have h18i:¬((l.length:Int) > 18):=by omega
    go_wp2
    go_ret
    exact⟨false,rfl,XR.out,fun _=>⟨h18,fun x hx=>by
     obtain⟨i,hi,rfl⟩:=List.mem_iff_getElem.1 hx
     exact HS.out i _ hi (List.getElem?_eq_getElem hi)⟩⟩
   ·have h18i:((l.length:Int) > 18):=by omega
    go_wp2
    go_ret
    exact⟨true,rfl,XR.out,fun h=>by cases h⟩
end Go.Proofs.YtnmnpnofdgdigaaGreatDoor
end
section
namespace Go.Proofs.YtnmnpnofdgdigaaGreatDoor
open Go.RowKit
set_option linter.unusedSimpArgs false
set_option linter.unusedVariables false
abbrev ItH:=ItemL×Option Addr×Nat
def cIt (x:ItH):List Value:=(cI x.1 x.2.1 x.2.2).toList
theorem cIt_len (x:ItH):(cIt x).length=8:=rfl
def cellsI (l:List ItH):List Value:=l.flatMap cIt
theorem cellsI_app (l m:List ItH):cellsI (l++m)=cellsI l++cellsI m:=by simp [cellsI]
theorem cellsI_one (l:List ItH):∀u∈cellsI l,u.oneCell'=true:=by
 intro u hu
 simp only [cellsI,List.mem_flatMap,cIt,cI,List.mem_cons,List.not_mem_nil,or_false] at hu
 obtain⟨a,-,rfl|rfl|rfl|rfl|rfl|rfl|rfl|rfl⟩:=hu <;> rfl
theorem info_item:(Tryz.prog.info? 54).map (fun i=>(i.zero,i.size,i.bytes))=some (some (.agg #[.string ⟨#[]⟩,.string ⟨#[]⟩,.slice none 0 0,.bool false,.bool false,.bool false,.bool false,.bool false]),8,64):=by kernel_rfl
theorem app_items {w:World} {ops:Array Oper} {rest:List Oper} {o:Oper} {a:Act} {Q:Exit→Act→World→Prop} (hgd:o.guard=none) (s x:Operand)
  (ho:o.op=.call { callee:=.builtin .append,args:=#[s,x],argTypes:=#[65,65]})
  (base:Nat) (v:Value) (n:Nat) (xs:List ItH) (hs:a.eval s=v) (hown:w.ownsRow base 54 8 v n (cellsI xs))
  (B:Nat) (A:Option Addr) (m c:Nat) (news:List ItH) (hx:a.eval x=.slice A m c) (hr:Rd w B 8 A m (cellsI news)) (hb:n+m≤1000000000000) (hbase:base≤w.heap.size)
  (h:∀v' w',w'.ownsRow base 54 8 v' (n+m) (cellsI (xs++news))→w.grownBy w' v.ownBlock→(v'.ownBlock=v.ownBlock∨v'.ownBlock=some w.heap.size)→wpList Tryz.prog ops Q rest (a.put o.dst v') w'):wpList Tryz.prog ops Q (o :: rest) a w:=by
 obtain⟨i0,hi,hz0,hz1,hz2⟩:=info_parts info_item
 refine app_wpList w hgd s x _ ho base _ i0 (.agg #[.string ⟨#[]⟩,.string ⟨#[]⟩,.slice none 0 0,.bool false,.bool false,.bool false,.bool false,.bool false]) 8 64 Tryz.underlying65 hi hz0 hz1 hz2 rfl (by decide) v n _ hs hown B A m c _ hx hr (cellsI_one _) (by unfold maxLen;omega) (by omega) hbase ?_
 rw [←cellsI_app];exact h
def NewS (base:Nat) (u:Value) (w:World) (A:Option Addr) (l:List ByteArray):Prop:=
 0 < l.length→∃b off,A=some ⟨b,off,none⟩∧base≤b∧u.ownBlock≠some b∧b < w.heap.size∧∀(i:Nat) (s:ByteArray),l[i]? = some s→w.cell? ⟨b,off+i,none⟩=some (.string s)
section
variable {base:Nat} {u u':Value} {w w':World} {A:Option Addr} {l:List ByteArray}
theorem NewS.ext (h:NewS base u w A l) (hb:Below w.heap.size w w'):NewS base u w' A l:=fun h0=>by
 obtain⟨b,off,h1,h2,h3,h4,h5⟩:=h h0
 exact⟨b,off,h1,h2,h3,Nat.lt_of_lt_of_le h4 hb.size,fun i s hi=>(hb.cell (p:=⟨b,off+i,none⟩) h4).trans (h5 i s hi)⟩
theorem NewS.rds (h:NewS base u w A l):RdS w A l:=fun h0=>by
 obtain⟨b,off,h1,h2,h3,h4,h5⟩:=h h0
 exact⟨b,off,h1,h4,h5⟩
theorem NewS.app (h:NewS base u w A l) (hg:w.grownBy w' u.ownBlock) (hr:u'.ownBlock=u.ownBlock∨u'.ownBlock=some w.heap.size):NewS base u' w' A l:=fun h0=>by
 obtain⟨b,off,h1,h2,h3,h4,h5⟩:=h h0
 have hk:w'.heap[b]? = w.heap[b]?:=hg.block b h4 (fun e=>h3 e.symm)
 refine⟨b,off,h1,h2,fun e=>?_,Nat.lt_of_lt_of_le h4 hg.size,fun i s hi=>?_⟩
 ·rcases hr with hr|hr
  ·exact h3 (hr ▸ e)
  ·rw [hr] at e
   simp only [Option.some.injEq] at e
   omega
 ·have:=h5 i s hi
  simp only [World.cell?] at this ⊢
  rw [hk]
  exact this
end
def RowC (base:Nat) (u:Value) (w:World) (ts:List ItH):Prop:=
 w.ownsRow base 54 8 u ts.length (cellsI ts)∧∀x∈ts,x.1.groups.length≤x.2.2∧NewS base u w x.2.1 x.1.groups
theorem RowC.nil (base:Nat) (w:World):RowC base (.slice none 0 0) w []:=⟨World.ownsRow_nil _ _ _ _,fun x hx=>by cases hx⟩
theorem RowC.ext {base:Nat} {u:Value} {w w':World} {ts:List ItH} (h:RowC base u w ts) (hb:Below w.heap.size w w'):RowC base u w' ts:=
 ⟨own_keep h.1 hb,fun x hx=>⟨(h.2 x hx).1,(h.2 x hx).2.ext hb⟩⟩
theorem RowC.app {base:Nat} {u u':Value} {w w':World} {ts:List ItH} {t:ItH} (h:RowC base u w ts) (ht:t.1.groups.length≤t.2.2∧NewS base u w t.2.1 t.1.groups)
  (hown:w'.ownsRow base 54 8 u' (ts.length+1) (cellsI (ts++[t]))) (hg:w.grownBy w' u.ownBlock) (hr:u'.ownBlock=u.ownBlock∨u'.ownBlock=some w.heap.size):RowC base u' w' (ts++[t]):=by
 refine⟨by rw [List.length_append];exact hown,fun x hx=>?_⟩
 rw [List.mem_append,List.mem_singleton] at hx
 rcases hx with hx|rfl
 ·exact⟨(h.2 x hx).1,(h.2 x hx).2.app hg hr⟩
 ·exact⟨ht.1,ht.2.app hg hr⟩
theorem RowC.rdi {base n c:Nat} {A:Option Addr} {w:World} {ts:List ItH} (h:RowC base (.slice A n c) w ts) (hn:n=ts.length):RdI w A (ts.map (·.1)):=fun h0=>by
 subst hn
 rw [List.length_map] at h0
 obtain⟨g,rfl,h1,h2⟩:=own_some h.1 h0
 refine⟨g,0,rfl,h2,fun i x hx=>?_⟩
 rw [List.getElem?_map,Option.map_eq_some_iff] at hx
 obtain⟨t,ht,rfl⟩:=hx
 obtain⟨q1,q2⟩:=h.2 t (List.mem_of_getElem? ht)
 refine⟨t.2.1,t.2.2,fun r v hv=>?_,q1,q2.rds⟩
 have hr8:r < 8:=by
  have:=(Array.getElem?_eq_some_iff.1 hv).1
  simpa [cI] using this
 have hi:=(List.getElem?_eq_some_iff.1 ht).1
 rw [Nat.zero_add,h.1.cellAt (i*8+r) (by omega)]
 show(cellsI ts)[i*8+r]? = _
 rw [show cellsI ts=ts.flatMap cIt from rfl,flat_get cIt_len ht r hr8]
 show(cI t.1 t.2.1 t.2.2).toList[r]? = _
 rw [Array.getElem?_toList]
 exact hv
end Go.Proofs.YtnmnpnofdgdigaaGreatDoor
end
section
namespace Go.Proofs.YtnmnpnofdgdigaaGreatDoor
open Go.RowKit
set_option linter.unusedSimpArgs false
set_option linter.unusedVariables false
theorem NewS.set {base g o:Nat} {u x:Value} {w:World} {A:Option Addr} {l:List ByteArray} (h:NewS base u w A l) (hg:g < base):NewS base u (w.setCell ⟨g,o,none⟩ x) A l:=fun h0=>by
 obtain⟨b,off,h1,h2,h3,h4,h5⟩:=h h0
 refine⟨b,off,h1,h2,h3,by simpa [World.setCell] using h4,fun i s hi=>?_⟩
 exact(World.cell?_of_block (heap_setCell_other w _ b _ (by show b≠g;omega))).trans (h5 i s hi)
theorem RowC.set {base g o:Nat} {u x:Value} {w:World} {ts:List ItH} (h:RowC base u w ts) (hg:g < base):RowC base u (w.setCell ⟨g,o,none⟩ x) ts:=
 ⟨own_set h.1 (fun e=>by have:=(h.1.lt _ e).1;omega) _,fun y hy=>⟨(h.2 y hy).1,(h.2 y hy).2.set hg⟩⟩
def TwinRPost (l:List ItemL) (v:Int) (w:World) (e:Ending) (w':World):Prop:=
 ∃A c,e=.returned (.agg #[.slice A l.length c,.int .i64 v])∧l.length≤c∧RdI w' A l∧Below w.heap.size w w'
theorem rds_rd {w:World} {A:Option Addr} {l:List ByteArray} (h:RdS w A l):Rd w w.heap.size 1 A l.length (cellsS l):=by
 refine⟨by simp [cellsS],fun h0=>?_⟩
 obtain⟨b,off,h1,h2,h3⟩:=h h0
 refine⟨b,off,h1,h2,fun j u hu=>?_⟩
 unfold cellsS at hu
 rw [List.getElem?_map,Option.map_eq_some_iff] at hu
 obtain⟨s,hs,rfl⟩:=hu
 exact h3 j s hs
theorem own_news {base base' c:Nat} {u:Value} {w:World} {A:Option Addr} {l:List ByteArray} (h:w.ownsRow base' 9 1 (.slice A l.length c) l.length (cellsS l)) (hb:base≤base') (hu:∀g,u.ownBlock=some g→g < base'):NewS base u w A l:=fun h0=>by
 obtain⟨g,rfl,h1,h2⟩:=own_some h h0
 refine⟨g,0,rfl,by omega,fun e=>by have:=hu _ e;omega,h2,fun i s hi=>?_⟩
 rw [Nat.zero_add,h.cellAt i (by have:=(List.getElem?_eq_some_iff.1 hi).1;omega)]
 simp [cellsS,hi]
set_option maxHeartbeats 16000000 in
set_option maxRecDepth 10000 in
theorem reftwin21_any (l:List ItemL) (v:Int) (A:Option Addr) (c:Nat) (w:World) (hz:SzL l) (hr:RdI w A l) (hc:l.length≤c) :
  Calls Tryz.prog 26 #[.agg #[.slice A l.length c,.int .i64 v]] w (TwinRPost l v w):=by
 obtain⟨W0,hW0⟩:∃W0,W0=(w.alloc (.cells #[.slice A l.length c,.int .i64 v] 67)).alloc (.cells #[.slice none 0 0,.int .i64 0] 67):=⟨_,rfl⟩
 have hX1:Below w.heap.size w (w.alloc (.cells #[.slice A l.length c,.int .i64 v] 67)):=(Below.refl _ _).alloc (Nat.le_refl _) _
 have hX0:Below w.heap.size w W0:=by rw [hW0];exact hX1.alloc (by simp) _
 have hs0:W0.heap.size=w.heap.size+2:=by rw [hW0];simp
 have R0:Hid (Row W0 w.heap.size #[.slice A l.length c,.int .i64 v]):=Lib.hid (by rw [hW0];exact(Row.new w _ _).ext ((Below.refl _ _).alloc (Nat.le_refl _) _))
 have Q0:Hid (Row W0 (w.heap.size+1) #[.slice none 0 0,.int .i64 0]):=Lib.hid (by
  rw [hW0]
  have h:=Row.new (w.alloc (.cells #[.slice A l.length c,.int .i64 v] 67)) 67 #[.slice none 0 0,.int .i64 0]
  rw [show(w.alloc (.cells #[.slice A l.length c,.int .i64 v] 67)).heap.size=w.heap.size+1 by simp] at h
  exact h)
 have HR:=Lib.hid (hr.ext hX0)
 have X0:=Lib.hid hX0
 have HZ:=Lib.hid hz
 have hln:=hz.1
 clear hX0 hX1 hr hz
 go_enter Tryz.func26,Tryz.ntmps26
 go_upto_region 1 with fail
 rw [←hW0]
 clear hW0
 go_wp2
 go_loopw [3,4,5] (fun s3 s4 _ wr=>∃(k:Nat) (ts:List ItH),k≤l.length∧s4=.int .i64 k∧Hid (ts.length=k)∧Hid (Below W0.heap.size W0 wr)∧Hid (ts.map (·.1)=l.take k)∧Hid (RowC W0.heap.size s3 wr ts)) (fun _ s4 _ _=>l.length - (intOf s4).toNat)
 case atStart=>exact⟨0,[],Nat.zero_le _,rfl,Lib.hid rfl,Lib.hid (Below.refl _ _),Lib.hid rfl,RowC.nil _ _⟩
 case round=>
  obtain⟨k,ts,hk,rfl,htk,HB,HM,HT⟩:=hrel
  obtain⟨A2,c2,rfl⟩:=own_form HT.out.1
  have XR:=Lib.hid (X0.out.trans (HB.out.mono X0.out.size))
  have Rr:=Lib.hid (R0.out.ext HB.out)
  have Qr:=Lib.hid (Q0.out.ext HB.out)
  have k0:wr.cell? ⟨w.heap.size,0,none⟩=some _:=Rr.out.at' 0 rfl
  have k1:wr.cell? ⟨w.heap.size,1,none⟩=some _:=Rr.out.at' 1 rfl
  by_cases hlt:k < l.length
  ·obtain⟨x,hx⟩:∃x,l[k]? = some x:=⟨_,List.getElem?_eq_getElem hlt⟩
   have HTK:Hid (l.take (k+1)=l.take k++[x]):=Lib.hid (by rw [List.take_add_one,hx];rfl)
   have HZX:=Lib.hid (HZ.out.2 x (List.mem_of_getElem? hx))
   obtain⟨b,off,rfl,hb,hcc⟩:=(HR.out.ext HB.out) (by omega)
   obtain⟨A',c',hcell,hl',hA'⟩:=hcc k x hx
   have d0:=hcell 0 _ rfl
   have d1:=hcell 1 _ rfl
   have d2:=hcell 2 _ rfl
   have d3:=hcell 3 _ rfl
   have d4:=hcell 4 _ rfl
   have d5:=hcell 5 _ rfl
   have d6:=hcell 6 _ rfl
   have d7:=hcell 7 _ rfl
   rw [Nat.add_zero] at d0
   dsimp only [cI] at d0 d1 d2 d3 d4 d5 d6 d7
   obtain⟨W3,hW3⟩:∃W3,W3=wr.alloc (.cells (cI x A' c') 54):=⟨_,rfl⟩
   have hX3:Below wr.heap.size wr W3:=by rw [hW3];exact(Below.refl _ _).alloc (Nat.le_refl _) _
   have I3:Hid (Row W3 wr.heap.size (cI x A' c')):=Lib.hid (by rw [hW3];exact Row.new wr _ _)
   have hs3:W3.heap.size=wr.heap.size+1:=by rw [hW3];simp
   have B3:=Lib.hid (HB.out.trans (hX3.mono HB.out.size))
   have T3:=Lib.hid (HT.out.ext hX3)
   have GA:=Lib.hid (RdS.ext hA' hX3)
   have Z3:=Lib.hid hX3
   have HOB:=Lib.hid HT.out.1.lt
   have hbs:=HB.out.size
   unfold cI at hW3 I3
   clear hcell hcc hA' hx hX3
   go_upto_region 6 with fail
   rw [←hW3]
   clear hW3 d0 d1 d2 d3 d4 d5 d6 d7 k0 k1
   have k0:W3.cell? ⟨wr.heap.size,0,none⟩=some _:=I3.out.at' 0 rfl
   have k1:W3.cell? ⟨wr.heap.size,1,none⟩=some _:=I3.out.at' 1 rfl
   have k2:W3.cell? ⟨wr.heap.size,2,none⟩=some _:=I3.out.at' 2 rfl
   have k3:W3.cell? ⟨wr.heap.size,3,none⟩=some _:=I3.out.at' 3 rfl
   have k4:W3.cell? ⟨wr.heap.size,4,none⟩=some _:=I3.out.at' 4 rfl
   have k5:W3.cell? ⟨wr.heap.size,5,none⟩=some _:=I3.out.at' 5 rfl
   have k6:W3.cell? ⟨wr.heap.size,6,none⟩=some _:=I3.out.at' 6 rfl
   have k7:W3.cell? ⟨wr.heap.size,7,none⟩=some _:=I3.out.at' 7 rfl
   have HO4:Hid ((W3.alloc (.cells #[] 9)).ownsRow (wr.heap.size+1) 9 1 (.slice (some ⟨wr.heap.size+1,0,none⟩) 0 0) 0 (cellsS [])):=Lib.hid ⟨rfl,.inr ⟨wr.heap.size+1,0,#[],rfl,by omega,by rw [←hs3];exact heap_alloc_new W3 _,Nat.le_refl _,Nat.zero_le _,rfl,rfl⟩⟩
   have hX4:Below W3.heap.size W3 (W3.alloc (.cells #[] 9)):=(Below.refl _ _).alloc (Nat.le_refl _) _
   have HRD:=Lib.hid (rds_rd (GA.out.ext hX4))
   have X4:Hid (Below (wr.heap.size+1) W3 (W3.alloc (.cells #[] 9))):=Lib.hid (by rw [←hs3];exact hX4)
   have hgl:=HZX.out.2.2.1
   clear hX4
   go_wp2_with (at_builtin;refine app_strs rfl _ _ rfl (wr.heap.size+1) _ 0 [] rfl HO4.out _ _ _ _ x.groups rfl HRD.out (by omega) (by simp;omega) ?_)
   intro v6 w6 hown6 hg6 hbk6
   try rw [Nat.zero_add] at hown6
   try rw [List.nil_append] at hown6
   obtain⟨A6,c6,rfl⟩:=own_form hown6
   have Y6:=Lib.hid (X4.out.grown hg6 (by simp;omega) (fun q hq=>(HO4.out.lt q hq).1))
   have I6:=Lib.hid (I3.out.extB Y6.out (by omega))
   have e2:=I6.out.at' 2 rfl
   have f2:=I6.out.fz 2
   obtain⟨W7,hW7⟩:∃W7,W7=w6.setCell ⟨wr.heap.size,2,none⟩ (.slice A6 x.groups.length c6):=⟨_,rfl⟩
   have hs6:=Y6.out.size
   have O7:Hid (W7.ownsRow (wr.heap.size+1) 9 1 (.slice A6 x.groups.length c6) x.groups.length (cellsS x.groups)):=Lib.hid (by rw [hW7];exact own_set hown6 (fun e=>by have:=(hown6.lt _ e).1;omega) _)
   have I7:Hid (Row W7 wr.heap.size #[.string x.jid,.string x.name,.slice A6 x.groups.length c6,.bool x.to,.bool x.out,.bool x.frm,.bool x.inn,.bool x.known]):=Lib.hid (by
    rw [hW7]
    have h:=I6.out.set 2 (.slice A6 x.groups.length c6)
    simp only [List.setIfInBounds_toArray,List.set_cons_zero,List.set_cons_succ] at h
    exact h)
   have Z7:Hid (Below wr.heap.size wr W7):=Lib.hid (by rw [hW7];exact(Z3.out.trans (Y6.out.mono (Nat.le_succ _))).setCell (p:=⟨wr.heap.size,2,none⟩) (Nat.le_refl _) _)
   have T7:=Lib.hid (HT.out.ext Z7.out)
   have N7:=Lib.hid (own_news (base:=W0.heap.size) (u:=.slice A2 ts.length c2) O7.out (by omega) (fun g hg=>by have:=(HOB.out g hg).2;omega))
   have L7:=Lib.hid (own_le O7.out)
   clear hown6 hg6 hbk6 HO4 HRD X4 I3 I6
   go_upto_region 7 with fail
   rw [←hW7]
   clear hW7 e2 f2 k0 k1 k2 k3 k4 k5 k6 k7
   have hs7:W0.heap.size≤W7.heap.size:=Nat.le_trans hbs Z7.out.size
   have N8:=Lib.hid (N7.out.ext ((Below.refl _ _).alloc (Nat.le_refl _) (.cells (cI x A6 c6) 54)))
   have T8:=Lib.hid (T7.out.ext ((Below.refl _ _).alloc (Nat.le_refl _) (.cells (cI x A6 c6) 54)))
   have HRN:Hid (Rd (W7.alloc (.cells (cI x A6 c6) 54)) (W7.heap.size+1) 8 (some ⟨W7.heap.size,0,none⟩) 1 (cellsI [(x,A6,c6)])):=Lib.hid (by
    have h:=Rd.new W7 54 (cI x A6 c6) (s:=8) (n:=1) rfl
    rw [show cellsI [(x,A6,c6)]=(cI x A6 c6).toList by simp [cellsI,cIt]]
    exact h)
   have Z8:=Lib.hid (HB.out.trans (Z7.out.mono HB.out.size))
   unfold cI at N8 T8 HRN
   have k0:W7.cell? ⟨wr.heap.size,0,none⟩=some _:=I7.out.at' 0 rfl
   have k1:W7.cell? ⟨wr.heap.size,1,none⟩=some _:=I7.out.at' 1 rfl
   have k2:W7.cell? ⟨wr.heap.size,2,none⟩=some _:=I7.out.at' 2 rfl
   have k3:W7.cell? ⟨wr.heap.size,3,none⟩=some _:=I7.out.at' 3 rfl
   have k4:W7.cell? ⟨wr.heap.size,4,none⟩=some _:=I7.out.at' 4 rfl
   have k5:W7.cell? ⟨wr.heap.size,5,none⟩=some _:=I7.out.at' 5 rfl
   have k6:W7.cell? ⟨wr.heap.size,6,none⟩=some _:=I7.out.at' 6 rfl
   have k7:W7.cell? ⟨wr.heap.size,7,none⟩=some _:=I7.out.at' 7 rfl
   go_wp2_with (at_builtin;refine app_items rfl _ _ rfl W0.heap.size _ ts.length ts rfl T8.out.1 _ _ _ _ [(x,A6,c6)] rfl HRN.out (by have:=htk.out;omega) (by simp;omega) ?_)
   intro v9 w9 hown9 hg9 hbk9
   have T9:=Lib.hid (RowC.app (t:=(x,A6,c6)) T8.out ⟨L7.out,N8.out⟩ (by rw [hs0];exact hown9) hg9 (by simpa using hbk9))
   have B9:Hid (Below W0.heap.size W0 w9):=(Z8.out.alloc Z8.out.size _).grown hg9 (by have:=Z8.out.size;simp;omega) (fun q hq=>(T8.out.1.lt q hq).1)
   clear hown9 hg9 hbk9
   go_wp2
   go_roundw
   case rel=>exact⟨k+1,ts++[(x,A6,c6)],by omega,by go_num,Lib.hid (by rw [List.length_append,htk.out];rfl),B9,Lib.hid (by rw [HTK.out,List.map_append,HM.out];rfl),T9⟩
   case measure=>simp [intOf];omega
  ·obtain rfl:k=l.length:=by omega
   have htl:=htk.out
   have q0:=Qr.out.at' 0 rfl
   have q1:=Qr.out.at' 1 rfl
   have g0:=Qr.out.fz 0
   have g1:=Qr.out.fz 1
   go_wp2
   have hh:=(Qr.out.set 0 (.slice A2 l.length c2)).set 1 (.int .i64 v)
   simp only [List.setIfInBounds_toArray,List.set_cons_zero,List.set_cons_succ] at hh
   obtain⟨t,hh⟩:=hh
   refine bodyPost_ret (v:=.agg #[.slice A2 l.length c2,.int .i64 v]) (results_one (fn:=Tryz.f26) (p:=2) (ty:=67) rfl _ _ (w.heap.size+1) _ _ _ rfl hh Tryz.underlying67 (by kernel_rfl)) rfl ?_
   have HF:=RowC.set (o:=1) (x:=.int .i64 v) (RowC.set (o:=0) (x:=.slice A2 l.length c2) HT.out (g:=w.heap.size+1) (by omega)) (g:=w.heap.size+1) (by omega)
   have h:=HF.rdi rfl
   rw [HM.out,List.take_length] at h
   refine⟨A2,c2,rfl,?_,h,(XR.out.setCell (p:=⟨w.heap.size+1,0,none⟩) (Nat.le_succ _) _).setCell (p:=⟨w.heap.size+1,1,none⟩) (Nat.le_succ _) _⟩
   have:=own_le HT.out.1
   omega
end Go.Proofs.YtnmnpnofdgdigaaGreatDoor
end
