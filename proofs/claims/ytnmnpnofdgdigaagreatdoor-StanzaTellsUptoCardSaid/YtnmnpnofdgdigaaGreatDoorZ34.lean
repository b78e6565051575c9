/- Part 34 of a proof laid in parts, one behind the other; no condition of its own. -/
import Derived.Test.YtnmnpnofdgdigaaGreatDoorZ33
set_option linter.all false
section
namespace Go.Proofs.YtnmnpnofdgdigaaGreatDoor
open Go.RowKit
set_option linter.unusedSimpArgs false
set_option linter.unusedVariables false
def cR (k:ByteArray) (A':Option Addr) (n c':Nat) (x:WantL) (A:Option Addr) (c:Nat):Array Value:=#[.string k,.slice A' n c',.int .u8 x.kind,.string x.res,.string x.jid,.string x.name,.slice A x.groups.length c,.bool false,.bool false,.bool false,.bool false,.bool false,.bool x.gone]
def isR (k:ByteArray) (v:List NodeL) (a b d:ByteArray):Bool:=(k.toList == a.toList) && ((nodeAt v 0).space.toList == b.toList) && ((nodeAt v 0).name.toList == d.toList)
def ReadR (ok:Bool) (g:Nat) (k:ByteArray) (A':Option Addr) (n c':Nat) (x:WantL) (w:World) (e:Ending) (w':World):Prop:=
 e=.returned (.bool ok)∧(ok=false→Below w.heap.size w w')∧(ok=true→Below g w w'∧∃A c,Row w' g (cR k A' n c' x A c)∧x.groups.length≤c∧RdSB (g+1) w' A x.groups)
theorem ReadR.no {g n c':Nat} {k:ByteArray} {A':Option Addr} {x:WantL} {w w':World} (h:Below w.heap.size w w'):ReadR false g k A' n c' x w (.returned (.bool false)) w':=⟨rfl,fun _=>h,fun h=>by cases h⟩
theorem ReadR.yes {g n c' c:Nat} {k:ByteArray} {A' A:Option Addr} {x:WantL} {w w':World} (h:Below g w w') (hr:Row w' g (cR k A' n c' x A c)) (hl:x.groups.length≤c) (hs:RdSB (g+1) w' A x.groups):ReadR true g k A' n c' x w (.returned (.bool true)) w':=⟨rfl,fun h=>by(cases h),fun _=>⟨h,A,c,hr,hl,hs⟩⟩
set_option maxHeartbeats 4000000 in
set_option maxRecDepth 10000 in
theorem ris_any (g:Nat) (k:ByteArray) (v:List NodeL) (A':Option Addr) (c':Nat) (x:WantL) (A:Option Addr) (c:Nat) (a b d:ByteArray) (w:World) (hR:Row w g (cR k A' v.length c' x A c)) (hr:RdV w w.heap.size A' v) (h0:0 < v.length) :
  Calls Tryz.prog 106 #[.pointer (some ⟨g,0,none⟩),.string a,.string b,.string d] w fun e w'=>e=.returned (.bool (isR k v a b d))∧Below w.heap.size w w':=by
 have h0i:(0:Int) < (v.length:Int):=by omega
 obtain⟨b1,o1,rfl,hb1,hc1⟩:=hr h0
 obtain⟨d0,d1,d2,-⟩:=hc1 0 (nodeAt v 0) (node_get h0)
 rw [Nat.zero_mul,Nat.add_zero] at d0 d1 d2
 have HIS:Box (isR k v a b d=((k.toList == a.toList) && ((nodeAt v 0).space.toList == b.toList) && ((nodeAt v 0).name.toList == d.toList))):=⟨rfl⟩
 have HR:=Lib.hid hR
 generalize nodeAt v 0=n at *
 generalize isR k v a b d=r at *
 clear hc1 hr hR h0
 unfold cR at HR
 have a0:w.cell? ⟨g,0,none⟩=some _:=HR.out.at' 0 rfl
 have a1:w.cell? ⟨g,1,none⟩=some _:=HR.out.at' 1 rfl
 have a2:w.cell? ⟨g,2,none⟩=some _:=HR.out.at' 2 rfl
 have a3:w.cell? ⟨g,3,none⟩=some _:=HR.out.at' 3 rfl
 have a4:w.cell? ⟨g,4,none⟩=some _:=HR.out.at' 4 rfl
 have a5:w.cell? ⟨g,5,none⟩=some _:=HR.out.at' 5 rfl
 have a6:w.cell? ⟨g,6,none⟩=some _:=HR.out.at' 6 rfl
 have a7:w.cell? ⟨g,7,none⟩=some _:=HR.out.at' 7 rfl
 have a8:w.cell? ⟨g,8,none⟩=some _:=HR.out.at' 8 rfl
 have a9:w.cell? ⟨g,9,none⟩=some _:=HR.out.at' 9 rfl
 have a10:w.cell? ⟨g,10,none⟩=some _:=HR.out.at' 10 rfl
 have a11:w.cell? ⟨g,11,none⟩=some _:=HR.out.at' 11 rfl
 have a12:w.cell? ⟨g,12,none⟩=some _:=HR.out.at' 12 rfl
 cases c1:(k.toList == a.toList)
 all_goals (try (cases c2:(n.space.toList == b.toList)))
 all_goals (try (cases c3:(n.name.toList == d.toList)))
 all_goals
  go_enter Tryz.func106,Tryz.ntmps106
  go_wp2
  go_ret
  refine⟨?_,Below.refl _ _⟩
  simp only [HIS.out, *]
  try rfl
set_option maxHeartbeats 4000000 in
set_option maxRecDepth 10000 in
theorem rget_any (g:Nat) (k:ByteArray) (v:List NodeL) (A':Option Addr) (c':Nat) (w:World) (hR:Row w g (cR k A' v.length c' emW none 0)) (hr:RdV w w.heap.size A' v) (h0:0 < v.length) :
  Calls Tryz.prog 51 #[.pointer (some ⟨g,0,none⟩)] w (ReadR (isR k v (⟨#[103,101,116]⟩:ByteArray) rosB (⟨#[113,117,101,114,121]⟩:ByteArray)) g k A' v.length c' getW w):=by
 have HI:=Lib.hid (ris_any g k v A' c' emW none 0 (⟨#[103,101,116]⟩:ByteArray) rosB (⟨#[113,117,101,114,121]⟩:ByteArray) w hR hr h0)
 generalize isR k v (⟨#[103,101,116]⟩:ByteArray) rosB (⟨#[113,117,101,114,121]⟩:ByteArray)=ok at *
 have HR:=Lib.hid hR
 clear hr hR h0
 go_enter Tryz.func51,Tryz.ntmps51
 go_wp2_with fail
 refine HI.out.mono ?_
 rintro e w1 ⟨rfl,hb1⟩
 have HB:=Lib.hid hb1
 have R1:=Lib.hid (HR.out.ext hb1)
 have hgl:=HR.out.lt
 clear hb1 HI HR
 have a0:w1.cell? ⟨g,0,none⟩=some _:=R1.out.at' 0 rfl
 have a1:w1.cell? ⟨g,1,none⟩=some _:=R1.out.at' 1 rfl
 have a2:w1.cell? ⟨g,2,none⟩=some _:=R1.out.at' 2 rfl
 have a3:w1.cell? ⟨g,3,none⟩=some _:=R1.out.at' 3 rfl
 have a4:w1.cell? ⟨g,4,none⟩=some _:=R1.out.at' 4 rfl
 have a5:w1.cell? ⟨g,5,none⟩=some _:=R1.out.at' 5 rfl
 have a6:w1.cell? ⟨g,6,none⟩=some _:=R1.out.at' 6 rfl
 have a7:w1.cell? ⟨g,7,none⟩=some _:=R1.out.at' 7 rfl
 have a8:w1.cell? ⟨g,8,none⟩=some _:=R1.out.at' 8 rfl
 have a9:w1.cell? ⟨g,9,none⟩=some _:=R1.out.at' 9 rfl
 have a10:w1.cell? ⟨g,10,none⟩=some _:=R1.out.at' 10 rfl
 have a11:w1.cell? ⟨g,11,none⟩=some _:=R1.out.at' 11 rfl
 have a12:w1.cell? ⟨g,12,none⟩=some _:=R1.out.at' 12 rfl
 have f0:w1.frozen? ⟨g,0,none⟩=false:=R1.out.fz 0
 have f1:w1.frozen? ⟨g,1,none⟩=false:=R1.out.fz 1
 have f2:w1.frozen? ⟨g,2,none⟩=false:=R1.out.fz 2
 have f3:w1.frozen? ⟨g,3,none⟩=false:=R1.out.fz 3
 have f4:w1.frozen? ⟨g,4,none⟩=false:=R1.out.fz 4
 have f5:w1.frozen? ⟨g,5,none⟩=false:=R1.out.fz 5
 have f6:w1.frozen? ⟨g,6,none⟩=false:=R1.out.fz 6
 have f7:w1.frozen? ⟨g,7,none⟩=false:=R1.out.fz 7
 have f8:w1.frozen? ⟨g,8,none⟩=false:=R1.out.fz 8
 have f9:w1.frozen? ⟨g,9,none⟩=false:=R1.out.fz 9
 have f10:w1.frozen? ⟨g,10,none⟩=false:=R1.out.fz 10
 have f11:w1.frozen? ⟨g,11,none⟩=false:=R1.out.fz 11
 have f12:w1.frozen? ⟨g,12,none⟩=false:=R1.out.fz 12
 cases ok
 ·go_wp2
  go_ret
  exact ReadR.no HB.out
 ·go_wp2
  go_ret
  have h:=R1.out.set 2 (.int .u8 2)
  simp only [cR,List.setIfInBounds_toArray,List.set_cons_zero,List.set_cons_succ] at h
  exact ReadR.yes ((HB.out.mono (Nat.le_of_lt hgl)).setCell (p:=⟨g,2,none⟩) (Nat.le_refl _) _) h (Nat.le_refl _) (fun h0=>absurd h0 (by decide))
set_option maxHeartbeats 8000000 in
set_option maxRecDepth 10000 in
theorem rbind_any (g:Nat) (k:ByteArray) (v:List NodeL) (A':Option Addr) (c':Nat) (w:World) (hc:v.length≤c') (hR:Row w g (cR k A' v.length c' emW none 0)) (hr:RdV w g A' v) (hz:SzV 1000000000 v) (ht:treeI v=true) :
  Calls Tryz.prog 50 #[.pointer (some ⟨g,0,none⟩)] w (ReadR (isR k v (⟨#[115,101,116]⟩:ByteArray) bindB (⟨#[98,105,110,100]⟩:ByteArray)) g k A' v.length c' (bindW v) w):=by
 have hgl:=hR.lt
 have hrw:RdV w w.heap.size A' v:=hr.more (Nat.le_of_lt hgl)
 have HI:=Lib.hid (ris_any g k v A' c' emW none 0 (⟨#[115,101,116]⟩:ByteArray) bindB (⟨#[98,105,110,100]⟩:ByteArray) w hR hrw (tree_parts ht).1)
 generalize isR k v (⟨#[115,101,116]⟩:ByteArray) bindB (⟨#[98,105,110,100]⟩:ByteArray)=ok at *
 have HR:=Lib.hid hR
 have HV:=Lib.hid hr
 have HC:=Lib.hid hc
 have HZ:=Lib.hid hz
 have HT:=Lib.hid ht
 have HBW:Box (bindW v=⟨1,if firstB bindB (⟨#[114,101,115,111,117,114,99,101]⟩:ByteArray) (elemsI v) then saidI (firstV bindB (⟨#[114,101,115,111,117,114,99,101]⟩:ByteArray) (elemsI v)) else emB,emB,emB,[],false⟩):=⟨rfl⟩
 have HET:=Lib.hid (elems_tree ht)
 have HEZ:=Lib.hid (elems_szw hz ht)
 clear hr hR hrw hc hz ht
 go_enter Tryz.func50,Tryz.ntmps50
 go_wp2_with fail
 refine HI.out.mono ?_
 rintro e w1 ⟨rfl,hb1⟩
 have HB:=Lib.hid hb1
 have R1:=Lib.hid (HR.out.ext hb1)
 have hs1:=hb1.size
 clear HI HR
 cases ok
 ·go_wp2
  go_ret
  exact ReadR.no HB.out
 ·have a0:w1.cell? ⟨g,0,none⟩=some _:=R1.out.at' 0 rfl
  have a1:w1.cell? ⟨g,1,none⟩=some _:=R1.out.at' 1 rfl
  have a2:w1.cell? ⟨g,2,none⟩=some _:=R1.out.at' 2 rfl
  have a3:w1.cell? ⟨g,3,none⟩=some _:=R1.out.at' 3 rfl
  have a4:w1.cell? ⟨g,4,none⟩=some _:=R1.out.at' 4 rfl
  have a5:w1.cell? ⟨g,5,none⟩=some _:=R1.out.at' 5 rfl
  have a6:w1.cell? ⟨g,6,none⟩=some _:=R1.out.at' 6 rfl
  have a7:w1.cell? ⟨g,7,none⟩=some _:=R1.out.at' 7 rfl
  have a8:w1.cell? ⟨g,8,none⟩=some _:=R1.out.at' 8 rfl
  have a9:w1.cell? ⟨g,9,none⟩=some _:=R1.out.at' 9 rfl
  have a10:w1.cell? ⟨g,10,none⟩=some _:=R1.out.at' 10 rfl
  have a11:w1.cell? ⟨g,11,none⟩=some _:=R1.out.at' 11 rfl
  have a12:w1.cell? ⟨g,12,none⟩=some _:=R1.out.at' 12 rfl
  have f0:w1.frozen? ⟨g,0,none⟩=false:=R1.out.fz 0
  have f1:w1.frozen? ⟨g,1,none⟩=false:=R1.out.fz 1
  have f2:w1.frozen? ⟨g,2,none⟩=false:=R1.out.fz 2
  have f3:w1.frozen? ⟨g,3,none⟩=false:=R1.out.fz 3
  have f4:w1.frozen? ⟨g,4,none⟩=false:=R1.out.fz 4
  have f5:w1.frozen? ⟨g,5,none⟩=false:=R1.out.fz 5
  have f6:w1.frozen? ⟨g,6,none⟩=false:=R1.out.fz 6
  have f7:w1.frozen? ⟨g,7,none⟩=false:=R1.out.fz 7
  have f8:w1.frozen? ⟨g,8,none⟩=false:=R1.out.fz 8
  have f9:w1.frozen? ⟨g,9,none⟩=false:=R1.out.fz 9
  have f10:w1.frozen? ⟨g,10,none⟩=false:=R1.out.fz 10
  have f11:w1.frozen? ⟨g,11,none⟩=false:=R1.out.fz 11
  have f12:w1.frozen? ⟨g,12,none⟩=false:=R1.out.fz 12
  obtain⟨W2,hW2⟩:∃W2,W2=w1.setCell ⟨g,2,none⟩ (.int .u8 1):=⟨_,rfl⟩
  have hR2:Row W2 g (cR k A' v.length c' ⟨1,emB,emB,emB,[],false⟩ none 0):=by
   have h:=R1.out.set 2 (.int .u8 1)
   simp only [cR,List.setIfInBounds_toArray,List.set_cons_zero,List.set_cons_succ] at h
   rw [hW2];exact h
  have hB2:Below g w W2:=by rw [hW2];exact(HB.out.mono (Nat.le_of_lt hgl)).setCell (p:=⟨g,2,none⟩) (Nat.le_refl _) _
  have hg2:=hR2.lt
  have HE:=Lib.hid (within_any v A' c' W2 HC.out HZ.out ((HV.out.below hB2 (Nat.le_refl _)).more (Nat.le_of_lt hg2)) HT.out)
  unfold ElemsPost at HE
  generalize hev:elemsI v=ev at *
  clear hev
  have R2:=Lib.hid hR2
  have B2:=Lib.hid hB2
  have HW2:=Lib.hid hW2
  clear hW2 hR2 hB2 hb1
  go_upto_region 4 with fail
  rw [←HW2.out]
  clear a0 a1 a2 a3 a4 a5 a6 a7 a8 a9 a10 a11 a12 f0 f1 f2 f3 f4 f5 f6 f7 f8 f9 f10 f11 f12 HW2 R1
  have a0:W2.cell? ⟨g,0,none⟩=some _:=R2.out.at' 0 rfl
  have a1:W2.cell? ⟨g,1,none⟩=some _:=R2.out.at' 1 rfl
  have a2:W2.cell? ⟨g,2,none⟩=some _:=R2.out.at' 2 rfl
  have a3:W2.cell? ⟨g,3,none⟩=some _:=R2.out.at' 3 rfl
  have a4:W2.cell? ⟨g,4,none⟩=some _:=R2.out.at' 4 rfl
  have a5:W2.cell? ⟨g,5,none⟩=some _:=R2.out.at' 5 rfl
  have a6:W2.cell? ⟨g,6,none⟩=some _:=R2.out.at' 6 rfl
  have a7:W2.cell? ⟨g,7,none⟩=some _:=R2.out.at' 7 rfl
  have a8:W2.cell? ⟨g,8,none⟩=some _:=R2.out.at' 8 rfl
  have a9:W2.cell? ⟨g,9,none⟩=some _:=R2.out.at' 9 rfl
  have a10:W2.cell? ⟨g,10,none⟩=some _:=R2.out.at' 10 rfl
  have a11:W2.cell? ⟨g,11,none⟩=some _:=R2.out.at' 11 rfl
  have a12:W2.cell? ⟨g,12,none⟩=some _:=R2.out.at' 12 rfl
  go_wp2_with fail
  refine HE.out.mono ?_
  rintro e w3 ⟨A5,c5,ts,rfl,hl5,hm5,hrow5,hb3⟩
  have B3:=Lib.hid (B2.out.trans (hb3.mono (Nat.le_of_lt hg2)))
  have R3:=Lib.hid (R2.out.ext hb3)
  have HF:=Lib.hid (first_any ev A5 c5 bindB (⟨#[114,101,115,111,117,114,99,101]⟩:ByteArray) w3 (hm5 ▸ hrow5.rdw (by rw [←hm5,List.length_map])) HEZ.out.1 (fun y hy=>(tree_parts (HET.out y hy)).1))
  have HIN:=Lib.hid (fun(h:firstB bindB (⟨#[114,101,115,111,117,114,99,101]⟩:ByteArray) ev=true)=>first_in h)
  unfold FirstPost at HF
  generalize firstB bindB (⟨#[114,101,115,111,117,114,99,101]⟩:ByteArray) ev=fb at *
  generalize firstV bindB (⟨#[114,101,115,111,117,114,99,101]⟩:ByteArray) ev=fv at *
  have hg3:=R3.out.lt
  clear hb3 hrow5 hm5 HE a0 a1 a2 a3 a4 a5 a6 a7 a8 a9 a10 a11 a12
  go_wp2_with fail
  refine HF.out.mono ?_
  rintro e w4 ⟨A6,c6,rfl,hl6,hr6,hb4⟩
  have B4:=Lib.hid (B3.out.trans (hb4.mono (Nat.le_of_lt hg3)))
  have R4:=Lib.hid (R3.out.ext hb4)
  have HV6:=Lib.hid hr6
  have hg4:=R4.out.lt
  clear hb4 hr6 HF
  cases fb
  ·go_wp2
   go_ret
   rw [HBW.out]
   exact ReadR.yes B4.out R4.out (Nat.le_refl _) (fun h0=>absurd h0 (Nat.lt_irrefl 0))
  ·have hin:=HIN.out rfl
   have HSD:=Lib.hid (words_tree fv A6 c6 w4 hl6 (HEZ.out.2 fv hin) HV6.out (HET.out fv hin))
   generalize saidI fv=sd at *
   clear hin HIN HEZ HET
   go_wp2_with fail
   refine HSD.out.mono ?_
   rintro e w5 ⟨rfl,hb5⟩
   have B5:=Lib.hid (B4.out.trans (hb5.mono (Nat.le_of_lt hg4)))
   have R5:=Lib.hid (R4.out.ext hb5)
   clear hb5
   have a0:w5.cell? ⟨g,0,none⟩=some _:=R5.out.at' 0 rfl
   have a1:w5.cell? ⟨g,1,none⟩=some _:=R5.out.at' 1 rfl
   have a2:w5.cell? ⟨g,2,none⟩=some _:=R5.out.at' 2 rfl
   have a3:w5.cell? ⟨g,3,none⟩=some _:=R5.out.at' 3 rfl
   have a4:w5.cell? ⟨g,4,none⟩=some _:=R5.out.at' 4 rfl
   have a5:w5.cell? ⟨g,5,none⟩=some _:=R5.out.at' 5 rfl
   have a6:w5.cell? ⟨g,6,none⟩=some _:=R5.out.at' 6 rfl
   have a7:w5.cell? ⟨g,7,none⟩=some _:=R5.out.at' 7 rfl
   have a8:w5.cell? ⟨g,8,none⟩=some _:=R5.out.at' 8 rfl
   have a9:w5.cell? ⟨g,9,none⟩=some _:=R5.out.at' 9 rfl
   have a10:w5.cell? ⟨g,10,none⟩=some _:=R5.out.at' 10 rfl
   have a11:w5.cell? ⟨g,11,none⟩=some _:=R5.out.at' 11 rfl
   have a12:w5.cell? ⟨g,12,none⟩=some _:=R5.out.at' 12 rfl
   have f0:w5.frozen? ⟨g,0,none⟩=false:=R5.out.fz 0
   have f1:w5.frozen? ⟨g,1,none⟩=false:=R5.out.fz 1
   have f2:w5.frozen? ⟨g,2,none⟩=false:=R5.out.fz 2
   have f3:w5.frozen? ⟨g,3,none⟩=false:=R5.out.fz 3
   have f4:w5.frozen? ⟨g,4,none⟩=false:=R5.out.fz 4
   have f5:w5.frozen? ⟨g,5,none⟩=false:=R5.out.fz 5
   have f6:w5.frozen? ⟨g,6,none⟩=false:=R5.out.fz 6
   have f7:w5.frozen? ⟨g,7,none⟩=false:=R5.out.fz 7
   have f8:w5.frozen? ⟨g,8,none⟩=false:=R5.out.fz 8
   have f9:w5.frozen? ⟨g,9,none⟩=false:=R5.out.fz 9
   have f10:w5.frozen? ⟨g,10,none⟩=false:=R5.out.fz 10
   have f11:w5.frozen? ⟨g,11,none⟩=false:=R5.out.fz 11
   have f12:w5.frozen? ⟨g,12,none⟩=false:=R5.out.fz 12
   go_wp2
   go_ret
   rw [HBW.out]
   have h:=R5.out.set 3 (.string sd)
   simp only [cR,List.setIfInBounds_toArray,List.set_cons_zero,List.set_cons_succ] at h
   exact ReadR.yes (B5.out.setCell (p:=⟨g,3,none⟩) (Nat.le_refl _) _) h (Nat.le_refl _) (fun h0=>absurd h0 (Nat.lt_irrefl 0))
end Go.Proofs.YtnmnpnofdgdigaaGreatDoor
end
