/- Part 33 of a proof laid in parts, one behind the other; no condition of its own. -/
import Derived.Test.YtnmnpnofdgdigaaGreatDoorZ32
import Derived.Deep.Cut
set_option linter.all false
section
namespace Go.Proofs.YtnmnpnofdgdigaaGreatDoor
open Go.RowKit
set_option linter.unusedSimpArgs false
set_option linter.unusedVariables false
def AskedPost (x:WantL) (w:World) (e:Ending) (w':World):Prop:=
 ∃A c,e=.returned (encW x A c)∧x.groups.length≤c∧RdSB w.heap.size w' A x.groups∧Below w.heap.size w w'
theorem AskedPost.em {w w':World} (h:Below w.heap.size w w'):AskedPost emW w (.returned (encW emW none 0)) w':=⟨none,0,rfl,Nat.le_refl _,fun h0=>absurd h0 (by decide),h⟩
theorem AskedPost.gt {w w':World} (h:Below w.heap.size w w'):AskedPost getW w (.returned (encW getW none 0)) w':=⟨none,0,rfl,Nat.le_refl _,fun h0=>absurd h0 (by decide),h⟩
theorem AskedPost.res {w w':World} {r:ByteArray} (h:Below w.heap.size w w'):AskedPost ⟨1,r,emB,emB,[],false⟩ w (.returned (encW ⟨1,r,emB,emB,[],false⟩ none 0)) w':=⟨none,0,rfl,Nat.le_refl _,fun h0=>absurd h0 (Nat.lt_irrefl 0),h⟩
theorem bindL:bindB.toList=[117,114,110,58,105,101,116,102,58,112,97,114,97,109,115,58,120,109,108,58,110,115,58,120,109,112,112,45,98,105,110,100]:=by decide +kernel
theorem bindNL:((⟨#[98,105,110,100]⟩:ByteArray):ByteArray).toList=[98,105,110,100]:=by decide +kernel
theorem queryL:((⟨#[113,117,101,114,121]⟩:ByteArray):ByteArray).toList=[113,117,101,114,121]:=by decide +kernel
theorem asked_start (s:StL) (A:Option Addr) (c:Nat) (w:World):∃W0,W0=(w.alloc (.cells #[.int .u8 s.kind,.string s.typ,.string s.id,.string s.frm,.string s.to,.slice A s.load.length c] 27)).alloc (.cells #[.int .u8 0,.string ⟨#[]⟩,.string ⟨#[]⟩,.string ⟨#[]⟩,.slice none 0 0,.bool false,.bool false,.bool false,.bool false,.bool false,.bool false] 56)∧
  Below w.heap.size w W0∧W0.heap.size=w.heap.size+2∧Row W0 (w.heap.size+1) (cW emW none 0)∧Row W0 w.heap.size #[.int .u8 s.kind,.string s.typ,.string s.id,.string s.frm,.string s.to,.slice A s.load.length c]:=by
 refine⟨_,rfl,((Below.refl _ _).alloc (Nat.le_refl _) _).alloc (by simp) _,by simp,?_,?_⟩
 ·exact⟨_,al_at (w.alloc (.cells #[.int .u8 s.kind,.string s.typ,.string s.id,.string s.frm,.string s.to,.slice A s.load.length c] 27)) _ _ _ (by simp) (Below.refl _ _)⟩
 ·exact(Row.new w _ _).ext ((Below.refl _ _).alloc (Nat.le_refl _) _)
set_option maxHeartbeats 16000000 in
set_option maxRecDepth 10000 in
theorem asked_none (s:StL) (A:Option Addr) (c:Nat) (w:World) (h1:¬s.load.length=1) :
  Calls Tryz.prog 54 #[encS s A c] w (AskedPost (askW s) w):=by
 obtain⟨W0,hW0,hX0,hs0,hR0,-⟩:=asked_start s A c w
 have he:askW s=emW:=by unfold askW;rw [if_neg h1]
 rw [he]
 have HX0:=Lib.hid hX0
 have HR0:=Lib.hid hR0
 have HW0:=Lib.hid hW0
 have hN:((s.load.length:Int) != 1)=true:=by rw [bne_iff_ne];omega
 clear hX0 hs0 hR0 hW0 he h1
 unfold encS
 go_enter Tryz.func54,Tryz.ntmps54
 go_upto_region 2 with fail
 rw [←HW0.out]
 have hgl:=HR0.out.lt
 have a0:W0.cell? ⟨w.heap.size+1,0,none⟩=some _:=HR0.out.at' 0 rfl
 have a1:W0.cell? ⟨w.heap.size+1,1,none⟩=some _:=HR0.out.at' 1 rfl
 have a2:W0.cell? ⟨w.heap.size+1,2,none⟩=some _:=HR0.out.at' 2 rfl
 have a3:W0.cell? ⟨w.heap.size+1,3,none⟩=some _:=HR0.out.at' 3 rfl
 have a4:W0.cell? ⟨w.heap.size+1,4,none⟩=some _:=HR0.out.at' 4 rfl
 have a5:W0.cell? ⟨w.heap.size+1,5,none⟩=some _:=HR0.out.at' 5 rfl
 have a6:W0.cell? ⟨w.heap.size+1,6,none⟩=some _:=HR0.out.at' 6 rfl
 have a7:W0.cell? ⟨w.heap.size+1,7,none⟩=some _:=HR0.out.at' 7 rfl
 have a8:W0.cell? ⟨w.heap.size+1,8,none⟩=some _:=HR0.out.at' 8 rfl
 have a9:W0.cell? ⟨w.heap.size+1,9,none⟩=some _:=HR0.out.at' 9 rfl
 have a10:W0.cell? ⟨w.heap.size+1,10,none⟩=some _:=HR0.out.at' 10 rfl
 have f0:W0.frozen? ⟨w.heap.size+1,0,none⟩=false:=HR0.out.fz 0
 have f1:W0.frozen? ⟨w.heap.size+1,1,none⟩=false:=HR0.out.fz 1
 have f2:W0.frozen? ⟨w.heap.size+1,2,none⟩=false:=HR0.out.fz 2
 have f3:W0.frozen? ⟨w.heap.size+1,3,none⟩=false:=HR0.out.fz 3
 have f4:W0.frozen? ⟨w.heap.size+1,4,none⟩=false:=HR0.out.fz 4
 have f5:W0.frozen? ⟨w.heap.size+1,5,none⟩=false:=HR0.out.fz 5
 have f6:W0.frozen? ⟨w.heap.size+1,6,none⟩=false:=HR0.out.fz 6
 have f7:W0.frozen? ⟨w.heap.size+1,7,none⟩=false:=HR0.out.fz 7
 have f8:W0.frozen? ⟨w.heap.size+1,8,none⟩=false:=HR0.out.fz 8
 have f9:W0.frozen? ⟨w.heap.size+1,9,none⟩=false:=HR0.out.fz 9
 have f10:W0.frozen? ⟨w.heap.size+1,10,none⟩=false:=HR0.out.fz 10
 go_wp2
 exact bodyPost_ret (v:=encW emW none 0)
  (by
   obtain⟨tt,hh⟩:=put11_row HR0.out (.int .u8 0) (.string ⟨#[]⟩) (.string ⟨#[]⟩) (.string ⟨#[]⟩) (.slice none 0 0) (.bool false) (.bool false) (.bool false) (.bool false) (.bool false) (.bool false)
   exact results_one (fn:=Tryz.f54) (p:=2) (ty:=56) rfl _ _ (w.heap.size+1) _ _ _ rfl hh Tryz.underlying56 (by kernel_rfl)) rfl
  (AskedPost.em (put11_below HX0.out (by omega) _ _ _ _ _ _ _ _ _ _ _))
set_option maxHeartbeats 16000000 in
set_option maxRecDepth 10000 in
theorem refasked_any (s:StL) (A:Option Addr) (c:Nat) (w:World) (hz:SzS s) (hr:RdW w w.heap.size A s.load) (ht:∀v∈s.load,treeI v=true) :
  Calls Tryz.prog 54 #[encS s A c] w (AskedPost (askW s) w):=by
 by_cases h1:¬s.load.length=1
 ·exact asked_none s A c w h1
 obtain⟨v,hv⟩:∃v,s.load=[v]:=List.length_eq_one_iff.1 (Classical.not_not.1 h1)
 obtain⟨W0,hW0,hX0,hs0,hR0,hB0⟩:=asked_start s A c w
 have hrl:RdW W0 W0.heap.size A s.load:=RdW.ext hr hX0
 have he:askW s=askV s v:=by unfold askW;rw [if_pos (Classical.not_not.1 h1),hv];rfl
 rw [he]
 have htree:treeI v=true:=ht v (by rw [hv];exact List.mem_singleton.2 rfl)
 have hzv:SzV 1000000000 v:=hz.2.2.2.2.2.2 v (by rw [hv];exact List.mem_singleton.2 rfl)
 have hx0:=(tree_parts htree).1
 obtain⟨b,off,rfl,hb,hcc⟩:=hrl (by rw [hv];exact Nat.zero_lt_one)
 obtain⟨A',c',e0,hl',hA'⟩:=hcc 0 v (by rw [hv];rfl)
 rw [Nat.add_zero] at e0
 have HA:=Lib.hid hA'
 obtain⟨b1,o1,rfl,hb1,hc1⟩:=hA' hx0
 obtain⟨d0,d1,d2,-⟩:=hc1 0 (nodeAt v 0) (node_get hx0)
 rw [Nat.zero_mul,Nat.add_zero] at d0 d1 d2
 have hN:((s.load.length:Int) != 1)=false:=by rw [hv];rfl
 have hNi:(0:Int) < (s.load.length:Int):=by rw [hv];exact Int.one_pos
 have hx0i:(0:Int) < (v.length:Int):=by omega
 have HAV:Box (askV s v=if (s.typ.toList == [115,101,116]) && (((nodeAt v 0).space.toList == [117,114,110,58,105,101,116,102,58,112,97,114,97,109,115,58,120,109,108,58,110,115,58,120,109,112,112,45,98,105,110,100]) && ((nodeAt v 0).name.toList == [98,105,110,100])) then bindW v else if (((nodeAt v 0).space.toList == [106,97,98,98,101,114,58,105,113,58,114,111,115,116,101,114]) && ((nodeAt v 0).name.toList == [113,117,101,114,121])) && (s.typ.toList == [103,101,116]) then getW else if (((nodeAt v 0).space.toList == [106,97,98,98,101,114,58,105,113,58,114,111,115,116,101,114]) && ((nodeAt v 0).name.toList == [113,117,101,114,121])) && (s.typ.toList == [115,101,116]) && oneIt v then setW v else emW):=⟨by unfold askV isEl typS typG;rw [bindL,bindNL,rosL,queryL]⟩
 have HE:=Lib.hid (refelems_any v (some ⟨b1,o1,none⟩) c' W0 hl' hzv HA.out htree)
 have HSE:=Lib.hid (refset_any v (some ⟨b1,o1,none⟩) c' W0 hl' hzv HA.out htree)
 have HET:=Lib.hid (elems_tree htree)
 have HEZ:=Lib.hid (elems_szw hzv htree)
 have HBW:Box (bindW v=⟨1,if firstB bindB (⟨#[114,101,115,111,117,114,99,101]⟩:ByteArray) (elemsI v) then saidI (firstV bindB (⟨#[114,101,115,111,117,114,99,101]⟩:ByteArray) (elemsI v)) else emB,emB,emB,[],false⟩):=⟨rfl⟩
 have HX0:=Lib.hid hX0
 have HR0:=Lib.hid hR0
 have HB0:=Lib.hid hB0
 have HW0:=Lib.hid hW0
 have hgl:=hR0.lt
 have hgb:w.heap.size < W0.heap.size:=by omega
 unfold ElemsPost at HE
 unfold SetPost at HSE
 generalize nodeAt v 0=n at *
 clear hX0 hR0 hW0 hB0 hrl hr he ht htree hzv hv h1 hx0 hA' hc1 hcc hz hs0
 unfold encS
 go_enter Tryz.func54,Tryz.ntmps54
 go_upto_region 3 with fail
 rw [←HW0.out]
 have k0:W0.cell? ⟨w.heap.size,0,none⟩=some _:=HB0.out.at' 0 rfl
 have k1:W0.cell? ⟨w.heap.size,1,none⟩=some _:=HB0.out.at' 1 rfl
 have k2:W0.cell? ⟨w.heap.size,2,none⟩=some _:=HB0.out.at' 2 rfl
 have k3:W0.cell? ⟨w.heap.size,3,none⟩=some _:=HB0.out.at' 3 rfl
 have k4:W0.cell? ⟨w.heap.size,4,none⟩=some _:=HB0.out.at' 4 rfl
 have k5:W0.cell? ⟨w.heap.size,5,none⟩=some _:=HB0.out.at' 5 rfl
 generalize askV s v=av at *
 cases S:(s.typ.toList == [115,101,116])
 ·cases r1:(n.space.toList == [106,97,98,98,101,114,58,105,113,58,114,111,115,116,101,114])
  ·have HP:=Lib.hid (show av=emW by rw [HAV.out,S,r1];rfl)
   have a0:W0.cell? ⟨w.heap.size+1,0,none⟩=some _:=HR0.out.at' 0 rfl
   have a1:W0.cell? ⟨w.heap.size+1,1,none⟩=some _:=HR0.out.at' 1 rfl
   have a2:W0.cell? ⟨w.heap.size+1,2,none⟩=some _:=HR0.out.at' 2 rfl
   have a3:W0.cell? ⟨w.heap.size+1,3,none⟩=some _:=HR0.out.at' 3 rfl
   have a4:W0.cell? ⟨w.heap.size+1,4,none⟩=some _:=HR0.out.at' 4 rfl
   have a5:W0.cell? ⟨w.heap.size+1,5,none⟩=some _:=HR0.out.at' 5 rfl
   have a6:W0.cell? ⟨w.heap.size+1,6,none⟩=some _:=HR0.out.at' 6 rfl
   have a7:W0.cell? ⟨w.heap.size+1,7,none⟩=some _:=HR0.out.at' 7 rfl
   have a8:W0.cell? ⟨w.heap.size+1,8,none⟩=some _:=HR0.out.at' 8 rfl
   have a9:W0.cell? ⟨w.heap.size+1,9,none⟩=some _:=HR0.out.at' 9 rfl
   have a10:W0.cell? ⟨w.heap.size+1,10,none⟩=some _:=HR0.out.at' 10 rfl
   have f0:W0.frozen? ⟨w.heap.size+1,0,none⟩=false:=HR0.out.fz 0
   have f1:W0.frozen? ⟨w.heap.size+1,1,none⟩=false:=HR0.out.fz 1
   have f2:W0.frozen? ⟨w.heap.size+1,2,none⟩=false:=HR0.out.fz 2
   have f3:W0.frozen? ⟨w.heap.size+1,3,none⟩=false:=HR0.out.fz 3
   have f4:W0.frozen? ⟨w.heap.size+1,4,none⟩=false:=HR0.out.fz 4
   have f5:W0.frozen? ⟨w.heap.size+1,5,none⟩=false:=HR0.out.fz 5
   have f6:W0.frozen? ⟨w.heap.size+1,6,none⟩=false:=HR0.out.fz 6
   have f7:W0.frozen? ⟨w.heap.size+1,7,none⟩=false:=HR0.out.fz 7
   have f8:W0.frozen? ⟨w.heap.size+1,8,none⟩=false:=HR0.out.fz 8
   have f9:W0.frozen? ⟨w.heap.size+1,9,none⟩=false:=HR0.out.fz 9
   have f10:W0.frozen? ⟨w.heap.size+1,10,none⟩=false:=HR0.out.fz 10
   go_wp2
   exact bodyPost_ret (v:=encW emW none 0)
    (by
     obtain⟨tt,hh⟩:=put11_row HR0.out (.int .u8 0) (.string ⟨#[]⟩) (.string ⟨#[]⟩) (.string ⟨#[]⟩) (.slice none 0 0) (.bool false) (.bool false) (.bool false) (.bool false) (.bool false) (.bool false)
     exact results_one (fn:=Tryz.f54) (p:=2) (ty:=56) rfl _ _ (w.heap.size+1) _ _ _ rfl hh Tryz.underlying56 (by kernel_rfl)) rfl
    (by rw [HP.out];exact AskedPost.em (put11_below HX0.out (by omega) _ _ _ _ _ _ _ _ _ _ _))
  ·cases r2:(n.name.toList == [113,117,101,114,121])
   ·have HP:=Lib.hid (show av=emW by rw [HAV.out,S,r1,r2];rfl)
    have a0:W0.cell? ⟨w.heap.size+1,0,none⟩=some _:=HR0.out.at' 0 rfl
    have a1:W0.cell? ⟨w.heap.size+1,1,none⟩=some _:=HR0.out.at' 1 rfl
    have a2:W0.cell? ⟨w.heap.size+1,2,none⟩=some _:=HR0.out.at' 2 rfl
    have a3:W0.cell? ⟨w.heap.size+1,3,none⟩=some _:=HR0.out.at' 3 rfl
    have a4:W0.cell? ⟨w.heap.size+1,4,none⟩=some _:=HR0.out.at' 4 rfl
    have a5:W0.cell? ⟨w.heap.size+1,5,none⟩=some _:=HR0.out.at' 5 rfl
    have a6:W0.cell? ⟨w.heap.size+1,6,none⟩=some _:=HR0.out.at' 6 rfl
    have a7:W0.cell? ⟨w.heap.size+1,7,none⟩=some _:=HR0.out.at' 7 rfl
    have a8:W0.cell? ⟨w.heap.size+1,8,none⟩=some _:=HR0.out.at' 8 rfl
    have a9:W0.cell? ⟨w.heap.size+1,9,none⟩=some _:=HR0.out.at' 9 rfl
    have a10:W0.cell? ⟨w.heap.size+1,10,none⟩=some _:=HR0.out.at' 10 rfl
    have f0:W0.frozen? ⟨w.heap.size+1,0,none⟩=false:=HR0.out.fz 0
    have f1:W0.frozen? ⟨w.heap.size+1,1,none⟩=false:=HR0.out.fz 1
    have f2:W0.frozen? ⟨w.heap.size+1,2,none⟩=false:=HR0.out.fz 2
    have f3:W0.frozen? ⟨w.heap.size+1,3,none⟩=false:=HR0.out.fz 3
    have f4:W0.frozen? ⟨w.heap.size+1,4,none⟩=false:=HR0.out.fz 4
    have f5:W0.frozen? ⟨w.heap.size+1,5,none⟩=false:=HR0.out.fz 5
    have f6:W0.frozen? ⟨w.heap.size+1,6,none⟩=false:=HR0.out.fz 6
    have f7:W0.frozen? ⟨w.heap.size+1,7,none⟩=false:=HR0.out.fz 7
    have f8:W0.frozen? ⟨w.heap.size+1,8,none⟩=false:=HR0.out.fz 8
    have f9:W0.frozen? ⟨w.heap.size+1,9,none⟩=false:=HR0.out.fz 9
    have f10:W0.frozen? ⟨w.heap.size+1,10,none⟩=false:=HR0.out.fz 10
    go_wp2
    exact bodyPost_ret (v:=encW emW none 0)
     (by
      obtain⟨tt,hh⟩:=put11_row HR0.out (.int .u8 0) (.string ⟨#[]⟩) (.string ⟨#[]⟩) (.string ⟨#[]⟩) (.slice none 0 0) (.bool false) (.bool false) (.bool false) (.bool false) (.bool false) (.bool false)
      exact results_one (fn:=Tryz.f54) (p:=2) (ty:=56) rfl _ _ (w.heap.size+1) _ _ _ rfl hh Tryz.underlying56 (by kernel_rfl)) rfl
     (by rw [HP.out];exact AskedPost.em (put11_below HX0.out (by omega) _ _ _ _ _ _ _ _ _ _ _))
   ·cases G:(s.typ.toList == [103,101,116])
    ·have HP:=Lib.hid (show av=emW by rw [HAV.out,S,r1,r2,G];rfl)
     have a0:W0.cell? ⟨w.heap.size+1,0,none⟩=some _:=HR0.out.at' 0 rfl
     have a1:W0.cell? ⟨w.heap.size+1,1,none⟩=some _:=HR0.out.at' 1 rfl
     have a2:W0.cell? ⟨w.heap.size+1,2,none⟩=some _:=HR0.out.at' 2 rfl
     have a3:W0.cell? ⟨w.heap.size+1,3,none⟩=some _:=HR0.out.at' 3 rfl
     have a4:W0.cell? ⟨w.heap.size+1,4,none⟩=some _:=HR0.out.at' 4 rfl
     have a5:W0.cell? ⟨w.heap.size+1,5,none⟩=some _:=HR0.out.at' 5 rfl
     have a6:W0.cell? ⟨w.heap.size+1,6,none⟩=some _:=HR0.out.at' 6 rfl
     have a7:W0.cell? ⟨w.heap.size+1,7,none⟩=some _:=HR0.out.at' 7 rfl
     have a8:W0.cell? ⟨w.heap.size+1,8,none⟩=some _:=HR0.out.at' 8 rfl
     have a9:W0.cell? ⟨w.heap.size+1,9,none⟩=some _:=HR0.out.at' 9 rfl
     have a10:W0.cell? ⟨w.heap.size+1,10,none⟩=some _:=HR0.out.at' 10 rfl
     have f0:W0.frozen? ⟨w.heap.size+1,0,none⟩=false:=HR0.out.fz 0
     have f1:W0.frozen? ⟨w.heap.size+1,1,none⟩=false:=HR0.out.fz 1
     have f2:W0.frozen? ⟨w.heap.size+1,2,none⟩=false:=HR0.out.fz 2
     have f3:W0.frozen? ⟨w.heap.size+1,3,none⟩=false:=HR0.out.fz 3
     have f4:W0.frozen? ⟨w.heap.size+1,4,none⟩=false:=HR0.out.fz 4
     have f5:W0.frozen? ⟨w.heap.size+1,5,none⟩=false:=HR0.out.fz 5
     have f6:W0.frozen? ⟨w.heap.size+1,6,none⟩=false:=HR0.out.fz 6
     have f7:W0.frozen? ⟨w.heap.size+1,7,none⟩=false:=HR0.out.fz 7
     have f8:W0.frozen? ⟨w.heap.size+1,8,none⟩=false:=HR0.out.fz 8
     have f9:W0.frozen? ⟨w.heap.size+1,9,none⟩=false:=HR0.out.fz 9
     have f10:W0.frozen? ⟨w.heap.size+1,10,none⟩=false:=HR0.out.fz 10
     go_wp2
     exact bodyPost_ret (v:=encW emW none 0)
      (by
       obtain⟨tt,hh⟩:=put11_row HR0.out (.int .u8 0) (.string ⟨#[]⟩) (.string ⟨#[]⟩) (.string ⟨#[]⟩) (.slice none 0 0) (.bool false) (.bool false) (.bool false) (.bool false) (.bool false) (.bool false)
       exact results_one (fn:=Tryz.f54) (p:=2) (ty:=56) rfl _ _ (w.heap.size+1) _ _ _ rfl hh Tryz.underlying56 (by kernel_rfl)) rfl
      (by rw [HP.out];exact AskedPost.em (put11_below HX0.out (by omega) _ _ _ _ _ _ _ _ _ _ _))
    ·have HP:=Lib.hid (show av=getW by rw [HAV.out,S,r1,r2,G];rfl)
     have a0:W0.cell? ⟨w.heap.size+1,0,none⟩=some _:=HR0.out.at' 0 rfl
     have a1:W0.cell? ⟨w.heap.size+1,1,none⟩=some _:=HR0.out.at' 1 rfl
     have a2:W0.cell? ⟨w.heap.size+1,2,none⟩=some _:=HR0.out.at' 2 rfl
     have a3:W0.cell? ⟨w.heap.size+1,3,none⟩=some _:=HR0.out.at' 3 rfl
     have a4:W0.cell? ⟨w.heap.size+1,4,none⟩=some _:=HR0.out.at' 4 rfl
     have a5:W0.cell? ⟨w.heap.size+1,5,none⟩=some _:=HR0.out.at' 5 rfl
     have a6:W0.cell? ⟨w.heap.size+1,6,none⟩=some _:=HR0.out.at' 6 rfl
     have a7:W0.cell? ⟨w.heap.size+1,7,none⟩=some _:=HR0.out.at' 7 rfl
     have a8:W0.cell? ⟨w.heap.size+1,8,none⟩=some _:=HR0.out.at' 8 rfl
     have a9:W0.cell? ⟨w.heap.size+1,9,none⟩=some _:=HR0.out.at' 9 rfl
     have a10:W0.cell? ⟨w.heap.size+1,10,none⟩=some _:=HR0.out.at' 10 rfl
     have f0:W0.frozen? ⟨w.heap.size+1,0,none⟩=false:=HR0.out.fz 0
     have f1:W0.frozen? ⟨w.heap.size+1,1,none⟩=false:=HR0.out.fz 1
     have f2:W0.frozen? ⟨w.heap.size+1,2,none⟩=false:=HR0.out.fz 2
     have f3:W0.frozen? ⟨w.heap.size+1,3,none⟩=false:=HR0.out.fz 3
     have f4:W0.frozen? ⟨w.heap.size+1,4,none⟩=false:=HR0.out.fz 4
     have f5:W0.frozen? ⟨w.heap.size+1,5,none⟩=false:=HR0.out.fz 5
     have f6:W0.frozen? ⟨w.heap.size+1,6,none⟩=false:=HR0.out.fz 6
     have f7:W0.frozen? ⟨w.heap.size+1,7,none⟩=false:=HR0.out.fz 7
     have f8:W0.frozen? ⟨w.heap.size+1,8,none⟩=false:=HR0.out.fz 8
     have f9:W0.frozen? ⟨w.heap.size+1,9,none⟩=false:=HR0.out.fz 9
     have f10:W0.frozen? ⟨w.heap.size+1,10,none⟩=false:=HR0.out.fz 10
     go_wp2
     exact bodyPost_ret (v:=encW getW none 0)
      (by
       obtain⟨tt,hh⟩:=put11_row HR0.out (.int .u8 2) (.string ⟨#[]⟩) (.string ⟨#[]⟩) (.string ⟨#[]⟩) (.slice none 0 0) (.bool false) (.bool false) (.bool false) (.bool false) (.bool false) (.bool false)
       exact results_one (fn:=Tryz.f54) (p:=2) (ty:=56) rfl _ _ (w.heap.size+1) _ _ _ rfl hh Tryz.underlying56 (by kernel_rfl)) rfl
      (by rw [HP.out];exact AskedPost.gt (put11_below HX0.out (by omega) _ _ _ _ _ _ _ _ _ _ _))
 ·have G:(s.typ.toList == [103,101,116])=false:=by rw [eq_of_beq S];decide
  cases b1:(n.space.toList == [117,114,110,58,105,101,116,102,58,112,97,114,97,109,115,58,120,109,108,58,110,115,58,120,109,112,112,45,98,105,110,100])
  ·cases r1:(n.space.toList == [106,97,98,98,101,114,58,105,113,58,114,111,115,116,101,114])
   ·have HP:=Lib.hid (show av=emW by rw [HAV.out,S,G,b1,r1];rfl)
    have a0:W0.cell? ⟨w.heap.size+1,0,none⟩=some _:=HR0.out.at' 0 rfl
    have a1:W0.cell? ⟨w.heap.size+1,1,none⟩=some _:=HR0.out.at' 1 rfl
    have a2:W0.cell? ⟨w.heap.size+1,2,none⟩=some _:=HR0.out.at' 2 rfl
    have a3:W0.cell? ⟨w.heap.size+1,3,none⟩=some _:=HR0.out.at' 3 rfl
    have a4:W0.cell? ⟨w.heap.size+1,4,none⟩=some _:=HR0.out.at' 4 rfl
    have a5:W0.cell? ⟨w.heap.size+1,5,none⟩=some _:=HR0.out.at' 5 rfl
    have a6:W0.cell? ⟨w.heap.size+1,6,none⟩=some _:=HR0.out.at' 6 rfl
    have a7:W0.cell? ⟨w.heap.size+1,7,none⟩=some _:=HR0.out.at' 7 rfl
    have a8:W0.cell? ⟨w.heap.size+1,8,none⟩=some _:=HR0.out.at' 8 rfl
    have a9:W0.cell? ⟨w.heap.size+1,9,none⟩=some _:=HR0.out.at' 9 rfl
    have a10:W0.cell? ⟨w.heap.size+1,10,none⟩=some _:=HR0.out.at' 10 rfl
    have f0:W0.frozen? ⟨w.heap.size+1,0,none⟩=false:=HR0.out.fz 0
    have f1:W0.frozen? ⟨w.heap.size+1,1,none⟩=false:=HR0.out.fz 1
    have f2:W0.frozen? ⟨w.heap.size+1,2,none⟩=false:=HR0.out.fz 2
    have f3:W0.frozen? ⟨w.heap.size+1,3,none⟩=false:=HR0.out.fz 3
    have f4:W0.frozen? ⟨w.heap.size+1,4,none⟩=false:=HR0.out.fz 4
    have f5:W0.frozen? ⟨w.heap.size+1,5,none⟩=false:=HR0.out.fz 5
    have f6:W0.frozen? ⟨w.heap.size+1,6,none⟩=false:=HR0.out.fz 6
    have f7:W0.frozen? ⟨w.heap.size+1,7,none⟩=false:=HR0.out.fz 7
    have f8:W0.frozen? ⟨w.heap.size+1,8,none⟩=false:=HR0.out.fz 8
    have f9:W0.frozen? ⟨w.heap.size+1,9,none⟩=false:=HR0.out.fz 9
    have f10:W0.frozen? ⟨w.heap.size+1,10,none⟩=false:=HR0.out.fz 10
    go_wp2
    exact bodyPost_ret (v:=encW emW none 0)
     (by
      obtain⟨tt,hh⟩:=put11_row HR0.out (.int .u8 0) (.string ⟨#[]⟩) (.string ⟨#[]⟩) (.string ⟨#[]⟩) (.slice none 0 0) (.bool false) (.bool false) (.bool false) (.bool false) (.bool false) (.bool false)
      exact results_one (fn:=Tryz.f54) (p:=2) (ty:=56) rfl _ _ (w.heap.size+1) _ _ _ rfl hh Tryz.underlying56 (by kernel_rfl)) rfl
     (by rw [HP.out];exact AskedPost.em (put11_below HX0.out (by omega) _ _ _ _ _ _ _ _ _ _ _))
   ·cases r2:(n.name.toList == [113,117,101,114,121])
    ·have HP:=Lib.hid (show av=emW by rw [HAV.out,S,G,b1,r1,r2];rfl)
     have a0:W0.cell? ⟨w.heap.size+1,0,none⟩=some _:=HR0.out.at' 0 rfl
     have a1:W0.cell? ⟨w.heap.size+1,1,none⟩=some _:=HR0.out.at' 1 rfl
     have a2:W0.cell? ⟨w.heap.size+1,2,none⟩=some _:=HR0.out.at' 2 rfl
     have a3:W0.cell? ⟨w.heap.size+1,3,none⟩=some _:=HR0.out.at' 3 rfl
     have a4:W0.cell? ⟨w.heap.size+1,4,none⟩=some _:=HR0.out.at' 4 rfl
     have a5:W0.cell? ⟨w.heap.size+1,5,none⟩=some _:=HR0.out.at' 5 rfl
     have a6:W0.cell? ⟨w.heap.size+1,6,none⟩=some _:=HR0.out.at' 6 rfl
     have a7:W0.cell? ⟨w.heap.size+1,7,none⟩=some _:=HR0.out.at' 7 rfl
     have a8:W0.cell? ⟨w.heap.size+1,8,none⟩=some _:=HR0.out.at' 8 rfl
     have a9:W0.cell? ⟨w.heap.size+1,9,none⟩=some _:=HR0.out.at' 9 rfl
     have a10:W0.cell? ⟨w.heap.size+1,10,none⟩=some _:=HR0.out.at' 10 rfl
     have f0:W0.frozen? ⟨w.heap.size+1,0,none⟩=false:=HR0.out.fz 0
     have f1:W0.frozen? ⟨w.heap.size+1,1,none⟩=false:=HR0.out.fz 1
     have f2:W0.frozen? ⟨w.heap.size+1,2,none⟩=false:=HR0.out.fz 2
     have f3:W0.frozen? ⟨w.heap.size+1,3,none⟩=false:=HR0.out.fz 3
     have f4:W0.frozen? ⟨w.heap.size+1,4,none⟩=false:=HR0.out.fz 4
     have f5:W0.frozen? ⟨w.heap.size+1,5,none⟩=false:=HR0.out.fz 5
     have f6:W0.frozen? ⟨w.heap.size+1,6,none⟩=false:=HR0.out.fz 6
     have f7:W0.frozen? ⟨w.heap.size+1,7,none⟩=false:=HR0.out.fz 7
     have f8:W0.frozen? ⟨w.heap.size+1,8,none⟩=false:=HR0.out.fz 8
     have f9:W0.frozen? ⟨w.heap.size+1,9,none⟩=false:=HR0.out.fz 9
     have f10:W0.frozen? ⟨w.heap.size+1,10,none⟩=false:=HR0.out.fz 10
     go_wp2
     exact bodyPost_ret (v:=encW emW none 0)
      (by
       obtain⟨tt,hh⟩:=put11_row HR0.out (.int .u8 0) (.string ⟨#[]⟩) (.string ⟨#[]⟩) (.string ⟨#[]⟩) (.slice none 0 0) (.bool false) (.bool false) (.bool false) (.bool false) (.bool false) (.bool false)
       exact results_one (fn:=Tryz.f54) (p:=2) (ty:=56) rfl _ _ (w.heap.size+1) _ _ _ rfl hh Tryz.underlying56 (by kernel_rfl)) rfl
      (by rw [HP.out];exact AskedPost.em (put11_below HX0.out (by omega) _ _ _ _ _ _ _ _ _ _ _))
    ·have HP:=Lib.hid (show av=if oneIt v then setW v else emW by rw [HAV.out,S,G,b1,r1,r2];rfl)
     have HSR:Box (setR v=if oneIt v then setW v else emW):=⟨rfl⟩
     generalize hone:oneIt v=on at *
     generalize hset:setR v=x at *
     rw [←HSR.out] at HP
     clear HE HET HEZ HBW hone hset
     go_wp2_with fail
     refine HSE.out.mono ?_
     rintro e w1 ⟨A5,c5,rfl,hl5,hr5,hb1⟩
     have X1:=Lib.hid (HX0.out.trans (hb1.mono HX0.out.size))
     have Q1:=Lib.hid (HR0.out.ext hb1)
     have HRD:=Lib.hid hr5
     have hs1:=hb1.size
     have hq1:=Q1.out.lt
     obtain⟨W2,hW2⟩:∃W2,W2=w1.alloc (.cells #[.int .u8 x.kind,.string x.res,.string x.jid,.string x.name,.slice A5 x.groups.length c5,.bool false,.bool false,.bool false,.bool false,.bool false,.bool x.gone] 56):=⟨_,rfl⟩
     have hX2:Below w1.heap.size w1 W2:=by rw [hW2];exact(Below.refl _ _).alloc (Nat.le_refl _) _
     have hP2:Row W2 w1.heap.size #[.int .u8 x.kind,.string x.res,.string x.jid,.string x.name,.slice A5 x.groups.length c5,.bool false,.bool false,.bool false,.bool false,.bool false,.bool x.gone]:=by rw [hW2];exact Row.new w1 _ _
     have X2:=Lib.hid (X1.out.trans (hX2.mono X1.out.size))
     have Q2:=Lib.hid (Q1.out.ext hX2)
     have P2:=Lib.hid hP2
     have HRD2:=Lib.hid (HRD.out.keep hX2.size (fun b hb1 hb2=>hX2.block b hb2))
     have HW2:=Lib.hid hW2
     have hq2:=Q2.out.lt
     have hp2:=P2.out.lt
     have hne:w1.heap.size≠w.heap.size+1:=by omega
     clear hW2 hX2 hP2 hb1 hr5 HSE
     unfold encW
     go_upto_region 16 with fail
     rw [←HW2.out]
     have a0:W2.cell? ⟨w1.heap.size,0,none⟩=some _:=P2.out.at' 0 rfl
     have a1:W2.cell? ⟨w1.heap.size,1,none⟩=some _:=P2.out.at' 1 rfl
     have a2:W2.cell? ⟨w1.heap.size,2,none⟩=some _:=P2.out.at' 2 rfl
     have a3:W2.cell? ⟨w1.heap.size,3,none⟩=some _:=P2.out.at' 3 rfl
     have a4:W2.cell? ⟨w1.heap.size,4,none⟩=some _:=P2.out.at' 4 rfl
     have a5:W2.cell? ⟨w1.heap.size,5,none⟩=some _:=P2.out.at' 5 rfl
     have a6:W2.cell? ⟨w1.heap.size,6,none⟩=some _:=P2.out.at' 6 rfl
     have a7:W2.cell? ⟨w1.heap.size,7,none⟩=some _:=P2.out.at' 7 rfl
     have a8:W2.cell? ⟨w1.heap.size,8,none⟩=some _:=P2.out.at' 8 rfl
     have a9:W2.cell? ⟨w1.heap.size,9,none⟩=some _:=P2.out.at' 9 rfl
     have a10:W2.cell? ⟨w1.heap.size,10,none⟩=some _:=P2.out.at' 10 rfl
     have z0:W2.cell? ⟨w.heap.size+1,0,none⟩=some _:=Q2.out.at' 0 rfl
     have z1:W2.cell? ⟨w.heap.size+1,1,none⟩=some _:=Q2.out.at' 1 rfl
     have z2:W2.cell? ⟨w.heap.size+1,2,none⟩=some _:=Q2.out.at' 2 rfl
     have z3:W2.cell? ⟨w.heap.size+1,3,none⟩=some _:=Q2.out.at' 3 rfl
     have z4:W2.cell? ⟨w.heap.size+1,4,none⟩=some _:=Q2.out.at' 4 rfl
     have z5:W2.cell? ⟨w.heap.size+1,5,none⟩=some _:=Q2.out.at' 5 rfl
     have z6:W2.cell? ⟨w.heap.size+1,6,none⟩=some _:=Q2.out.at' 6 rfl
     have z7:W2.cell? ⟨w.heap.size+1,7,none⟩=some _:=Q2.out.at' 7 rfl
     have z8:W2.cell? ⟨w.heap.size+1,8,none⟩=some _:=Q2.out.at' 8 rfl
     have z9:W2.cell? ⟨w.heap.size+1,9,none⟩=some _:=Q2.out.at' 9 rfl
     have z10:W2.cell? ⟨w.heap.size+1,10,none⟩=some _:=Q2.out.at' 10 rfl
     have f0:W2.frozen? ⟨w.heap.size+1,0,none⟩=false:=Q2.out.fz 0
     have f1:W2.frozen? ⟨w.heap.size+1,1,none⟩=false:=Q2.out.fz 1
     have f2:W2.frozen? ⟨w.heap.size+1,2,none⟩=false:=Q2.out.fz 2
     have f3:W2.frozen? ⟨w.heap.size+1,3,none⟩=false:=Q2.out.fz 3
     have f4:W2.frozen? ⟨w.heap.size+1,4,none⟩=false:=Q2.out.fz 4
     have f5:W2.frozen? ⟨w.heap.size+1,5,none⟩=false:=Q2.out.fz 5
     have f6:W2.frozen? ⟨w.heap.size+1,6,none⟩=false:=Q2.out.fz 6
     have f7:W2.frozen? ⟨w.heap.size+1,7,none⟩=false:=Q2.out.fz 7
     have f8:W2.frozen? ⟨w.heap.size+1,8,none⟩=false:=Q2.out.fz 8
     have f9:W2.frozen? ⟨w.heap.size+1,9,none⟩=false:=Q2.out.fz 9
     have f10:W2.frozen? ⟨w.heap.size+1,10,none⟩=false:=Q2.out.fz 10
     cases on
     ·have HP2:=Lib.hid (HP.out.trans (show x=emW by rw [HSR.out];rfl))
      go_wp2
      exact bodyPost_ret (v:=encW emW none 0)
       (by
        obtain⟨tt,hh⟩:=put11_row Q2.out (.int .u8 0) (.string ⟨#[]⟩) (.string ⟨#[]⟩) (.string ⟨#[]⟩) (.slice none 0 0) (.bool false) (.bool false) (.bool false) (.bool false) (.bool false) (.bool false)
        exact results_one (fn:=Tryz.f54) (p:=2) (ty:=56) rfl _ _ (w.heap.size+1) _ _ _ rfl hh Tryz.underlying56 (by kernel_rfl)) rfl
       (by rw [HP2.out];exact AskedPost.em (put11_below X2.out (by omega) _ _ _ _ _ _ _ _ _ _ _))
     ·go_wp2
      exact bodyPost_ret (v:=encW x A5 c5)
       (by
        obtain⟨tt,hh⟩:=put11_row Q2.out (.int .u8 x.kind) (.string x.res) (.string x.jid) (.string x.name) (.slice A5 x.groups.length c5) (.bool false) (.bool false) (.bool false) (.bool false) (.bool false) (.bool x.gone)
        exact results_one (fn:=Tryz.f54) (p:=2) (ty:=56) rfl _ _ (w.heap.size+1) _ _ _ rfl hh Tryz.underlying56 (by kernel_rfl)) rfl
       (by rw [HP.out];exact⟨A5,c5,rfl,hl5,((HRD2.out.keep (put11_size _ _ _ _ _ _ _ _ _ _ _ _ _) (fun b hb1 hb2=>put11_other (by omega) _ _ _ _ _ _ _ _ _ _ _)).mono (by omega)),put11_below X2.out (by omega) _ _ _ _ _ _ _ _ _ _ _⟩)
  ·cases b2:(n.name.toList == [98,105,110,100])
   ·have r1:(n.space.toList == [106,97,98,98,101,114,58,105,113,58,114,111,115,116,101,114])=false:=by rw [eq_of_beq b1];decide
    have HP:=Lib.hid (show av=emW by rw [HAV.out,S,G,b1,b2,r1];rfl)
    have a0:W0.cell? ⟨w.heap.size+1,0,none⟩=some _:=HR0.out.at' 0 rfl
    have a1:W0.cell? ⟨w.heap.size+1,1,none⟩=some _:=HR0.out.at' 1 rfl
    have a2:W0.cell? ⟨w.heap.size+1,2,none⟩=some _:=HR0.out.at' 2 rfl
    have a3:W0.cell? ⟨w.heap.size+1,3,none⟩=some _:=HR0.out.at' 3 rfl
    have a4:W0.cell? ⟨w.heap.size+1,4,none⟩=some _:=HR0.out.at' 4 rfl
    have a5:W0.cell? ⟨w.heap.size+1,5,none⟩=some _:=HR0.out.at' 5 rfl
    have a6:W0.cell? ⟨w.heap.size+1,6,none⟩=some _:=HR0.out.at' 6 rfl
    have a7:W0.cell? ⟨w.heap.size+1,7,none⟩=some _:=HR0.out.at' 7 rfl
    have a8:W0.cell? ⟨w.heap.size+1,8,none⟩=some _:=HR0.out.at' 8 rfl
    have a9:W0.cell? ⟨w.heap.size+1,9,none⟩=some _:=HR0.out.at' 9 rfl
    have a10:W0.cell? ⟨w.heap.size+1,10,none⟩=some _:=HR0.out.at' 10 rfl
    have f0:W0.frozen? ⟨w.heap.size+1,0,none⟩=false:=HR0.out.fz 0
    have f1:W0.frozen? ⟨w.heap.size+1,1,none⟩=false:=HR0.out.fz 1
    have f2:W0.frozen? ⟨w.heap.size+1,2,none⟩=false:=HR0.out.fz 2
    have f3:W0.frozen? ⟨w.heap.size+1,3,none⟩=false:=HR0.out.fz 3
    have f4:W0.frozen? ⟨w.heap.size+1,4,none⟩=false:=HR0.out.fz 4
    have f5:W0.frozen? ⟨w.heap.size+1,5,none⟩=false:=HR0.out.fz 5
    have f6:W0.frozen? ⟨w.heap.size+1,6,none⟩=false:=HR0.out.fz 6
    have f7:W0.frozen? ⟨w.heap.size+1,7,none⟩=false:=HR0.out.fz 7
    have f8:W0.frozen? ⟨w.heap.size+1,8,none⟩=false:=HR0.out.fz 8
    have f9:W0.frozen? ⟨w.heap.size+1,9,none⟩=false:=HR0.out.fz 9
    have f10:W0.frozen? ⟨w.heap.size+1,10,none⟩=false:=HR0.out.fz 10
    go_wp2
    exact bodyPost_ret (v:=encW emW none 0)
     (by
      obtain⟨tt,hh⟩:=put11_row HR0.out (.int .u8 0) (.string ⟨#[]⟩) (.string ⟨#[]⟩) (.string ⟨#[]⟩) (.slice none 0 0) (.bool false) (.bool false) (.bool false) (.bool false) (.bool false) (.bool false)
      exact results_one (fn:=Tryz.f54) (p:=2) (ty:=56) rfl _ _ (w.heap.size+1) _ _ _ rfl hh Tryz.underlying56 (by kernel_rfl)) rfl
     (by rw [HP.out];exact AskedPost.em (put11_below HX0.out (by omega) _ _ _ _ _ _ _ _ _ _ _))
   ·have HP:=Lib.hid (show av=bindW v by rw [HAV.out,S,b1,b2];rfl)
    clear HSE
    generalize hev:elemsI v=ev at *
    clear hev
    go_wp2_with fail
    refine HE.out.mono ?_
    rintro e w1 ⟨A5,c5,ts,rfl,hl5,hm5,hrow5,hb1⟩
    have X1:=Lib.hid (HX0.out.trans (hb1.mono HX0.out.size))
    have Q1:=Lib.hid (HR0.out.ext hb1)
    have hs1:=X1.out.size
    have HF:=Lib.hid (reffirst_any ev A5 c5 bindB (⟨#[114,101,115,111,117,114,99,101]⟩:ByteArray) w1 (hm5 ▸ hrow5.rdw (by rw [←hm5,List.length_map])) HEZ.out.1 (fun y hy=>(tree_parts (HET.out y hy)).1))
    have HIN:=Lib.hid (fun(h:firstB bindB (⟨#[114,101,115,111,117,114,99,101]⟩:ByteArray) ev=true)=>first_in h)
    unfold FirstPost at HF
    generalize firstB bindB (⟨#[114,101,115,111,117,114,99,101]⟩:ByteArray) ev=fb at *
    generalize firstV bindB (⟨#[114,101,115,111,117,114,99,101]⟩:ByteArray) ev=fv at *
    clear hb1 hrow5 hm5 HE
    go_wp2_with fail
    refine HF.out.mono ?_
    rintro e w2 ⟨A6,c6,rfl,hl6,hr6,hb2⟩
    have X2:=Lib.hid (X1.out.trans (hb2.mono X1.out.size))
    have Q2:=Lib.hid (Q1.out.ext hb2)
    have hs2:=X2.out.size
    have HV:=Lib.hid hr6
    clear hr6 hb2 HF
    obtain⟨W6,hW6⟩:∃W6,W6=w2.alloc (.cells #[.int .u8 1,.string ⟨#[]⟩,.string ⟨#[]⟩,.string ⟨#[]⟩,.slice none 0 0,.bool false,.bool false,.bool false,.bool false,.bool false,.bool false] 56):=⟨_,rfl⟩
    have hbs:Below w2.heap.size w2 W6:=by rw [hW6];exact(Below.refl _ _).alloc (Nat.le_refl _) _
    have SV:=Lib.hid (show Row W6 w2.heap.size #[.int .u8 1,.string ⟨#[]⟩,.string ⟨#[]⟩,.string ⟨#[]⟩,.slice none 0 0,.bool false,.bool false,.bool false,.bool false,.bool false,.bool false] by rw [hW6];exact Row.new w2 _ _)
    have hg9:w2.heap.size≤w2.heap.size:=Nat.le_refl _
    go_upto_region 8 with fail
    rw [←hW6]
    generalize hgg:w2.heap.size=g at *
    have X6:=Lib.hid (X2.out.trans (hbs.mono (hgg ▸ X2.out.size)))
    have Q6:=Lib.hid (Q2.out.ext (hgg ▸ hbs))
    have HV6:=Lib.hid ((HV.out.below hbs (Nat.le_refl _)).more (hgg ▸ hbs.size))
    have hgl2:=SV.out.lt
    have hq2:=Q2.out.lt
    have hq6:=Q6.out.lt
    clear hW6 hbs Q1 Q2 X1 X2
    have hgn:w.heap.size+1≠g:=by omega
    cases fb
    ·have HP2:=Lib.hid (HP.out.trans HBW.out)
     have a0:W6.cell? ⟨g,0,none⟩=some _:=SV.out.at' 0 rfl
     have a1:W6.cell? ⟨g,1,none⟩=some _:=SV.out.at' 1 rfl
     have a2:W6.cell? ⟨g,2,none⟩=some _:=SV.out.at' 2 rfl
     have a3:W6.cell? ⟨g,3,none⟩=some _:=SV.out.at' 3 rfl
     have a4:W6.cell? ⟨g,4,none⟩=some _:=SV.out.at' 4 rfl
     have a5:W6.cell? ⟨g,5,none⟩=some _:=SV.out.at' 5 rfl
     have a6:W6.cell? ⟨g,6,none⟩=some _:=SV.out.at' 6 rfl
     have a7:W6.cell? ⟨g,7,none⟩=some _:=SV.out.at' 7 rfl
     have a8:W6.cell? ⟨g,8,none⟩=some _:=SV.out.at' 8 rfl
     have a9:W6.cell? ⟨g,9,none⟩=some _:=SV.out.at' 9 rfl
     have a10:W6.cell? ⟨g,10,none⟩=some _:=SV.out.at' 10 rfl
     have z0:W6.cell? ⟨w.heap.size+1,0,none⟩=some _:=Q6.out.at' 0 rfl
     have z1:W6.cell? ⟨w.heap.size+1,1,none⟩=some _:=Q6.out.at' 1 rfl
     have z2:W6.cell? ⟨w.heap.size+1,2,none⟩=some _:=Q6.out.at' 2 rfl
     have z3:W6.cell? ⟨w.heap.size+1,3,none⟩=some _:=Q6.out.at' 3 rfl
     have z4:W6.cell? ⟨w.heap.size+1,4,none⟩=some _:=Q6.out.at' 4 rfl
     have z5:W6.cell? ⟨w.heap.size+1,5,none⟩=some _:=Q6.out.at' 5 rfl
     have z6:W6.cell? ⟨w.heap.size+1,6,none⟩=some _:=Q6.out.at' 6 rfl
     have z7:W6.cell? ⟨w.heap.size+1,7,none⟩=some _:=Q6.out.at' 7 rfl
     have z8:W6.cell? ⟨w.heap.size+1,8,none⟩=some _:=Q6.out.at' 8 rfl
     have z9:W6.cell? ⟨w.heap.size+1,9,none⟩=some _:=Q6.out.at' 9 rfl
     have z10:W6.cell? ⟨w.heap.size+1,10,none⟩=some _:=Q6.out.at' 10 rfl
     have f0:W6.frozen? ⟨w.heap.size+1,0,none⟩=false:=Q6.out.fz 0
     have f1:W6.frozen? ⟨w.heap.size+1,1,none⟩=false:=Q6.out.fz 1
     have f2:W6.frozen? ⟨w.heap.size+1,2,none⟩=false:=Q6.out.fz 2
     have f3:W6.frozen? ⟨w.heap.size+1,3,none⟩=false:=Q6.out.fz 3
     have f4:W6.frozen? ⟨w.heap.size+1,4,none⟩=false:=Q6.out.fz 4
     have f5:W6.frozen? ⟨w.heap.size+1,5,none⟩=false:=Q6.out.fz 5
     have f6:W6.frozen? ⟨w.heap.size+1,6,none⟩=false:=Q6.out.fz 6
     have f7:W6.frozen? ⟨w.heap.size+1,7,none⟩=false:=Q6.out.fz 7
     have f8:W6.frozen? ⟨w.heap.size+1,8,none⟩=false:=Q6.out.fz 8
     have f9:W6.frozen? ⟨w.heap.size+1,9,none⟩=false:=Q6.out.fz 9
     have f10:W6.frozen? ⟨w.heap.size+1,10,none⟩=false:=Q6.out.fz 10
     go_wp2
     exact bodyPost_ret (v:=encW ⟨1,emB,emB,emB,[],false⟩ none 0)
      (by
       obtain⟨tt,hh⟩:=put11_row Q6.out (.int .u8 1) (.string ⟨#[]⟩) (.string ⟨#[]⟩) (.string ⟨#[]⟩) (.slice none 0 0) (.bool false) (.bool false) (.bool false) (.bool false) (.bool false) (.bool false)
       exact results_one (fn:=Tryz.f54) (p:=2) (ty:=56) rfl _ _ (w.heap.size+1) _ _ _ rfl hh Tryz.underlying56 (by kernel_rfl)) rfl
      (by rw [HP2.out];exact AskedPost.res (put11_below X6.out (by omega) _ _ _ _ _ _ _ _ _ _ _))
    ·have HP2:=Lib.hid (HP.out.trans HBW.out)
     have hin:=HIN.out rfl
     have HSD:=Lib.hid (refsaid_any fv A6 c6 W6 hl6 (HEZ.out.2 fv hin) HV6.out (HET.out fv hin))
     generalize saidI fv=sd at *
     clear hin HIN HEZ HET
     go_wp2_with fail
     refine HSD.out.mono ?_
     rintro e w7 ⟨rfl,hb7⟩
     have X7:=Lib.hid (X6.out.trans (hb7.mono X6.out.size))
     have S7:=Lib.hid (SV.out.ext hb7)
     have Q7:=Lib.hid (Q6.out.ext hb7)
     clear hb7
     have a0:w7.cell? ⟨g,0,none⟩=some _:=S7.out.at' 0 rfl
     have a1:w7.cell? ⟨g,1,none⟩=some _:=S7.out.at' 1 rfl
     have a2:w7.cell? ⟨g,2,none⟩=some _:=S7.out.at' 2 rfl
     have a3:w7.cell? ⟨g,3,none⟩=some _:=S7.out.at' 3 rfl
     have a4:w7.cell? ⟨g,4,none⟩=some _:=S7.out.at' 4 rfl
     have a5:w7.cell? ⟨g,5,none⟩=some _:=S7.out.at' 5 rfl
     have a6:w7.cell? ⟨g,6,none⟩=some _:=S7.out.at' 6 rfl
     have a7:w7.cell? ⟨g,7,none⟩=some _:=S7.out.at' 7 rfl
     have a8:w7.cell? ⟨g,8,none⟩=some _:=S7.out.at' 8 rfl
     have a9:w7.cell? ⟨g,9,none⟩=some _:=S7.out.at' 9 rfl
     have a10:w7.cell? ⟨g,10,none⟩=some _:=S7.out.at' 10 rfl
     have f0:w7.frozen? ⟨g,0,none⟩=false:=S7.out.fz 0
     have f1:w7.frozen? ⟨g,1,none⟩=false:=S7.out.fz 1
     have f2:w7.frozen? ⟨g,2,none⟩=false:=S7.out.fz 2
     have f3:w7.frozen? ⟨g,3,none⟩=false:=S7.out.fz 3
     have f4:w7.frozen? ⟨g,4,none⟩=false:=S7.out.fz 4
     have f5:w7.frozen? ⟨g,5,none⟩=false:=S7.out.fz 5
     have f6:w7.frozen? ⟨g,6,none⟩=false:=S7.out.fz 6
     have f7:w7.frozen? ⟨g,7,none⟩=false:=S7.out.fz 7
     have f8:w7.frozen? ⟨g,8,none⟩=false:=S7.out.fz 8
     have f9:w7.frozen? ⟨g,9,none⟩=false:=S7.out.fz 9
     have f10:w7.frozen? ⟨g,10,none⟩=false:=S7.out.fz 10
     obtain⟨W8,hW8⟩:∃W8,W8=w7.setCell ⟨g,1,none⟩ (.string sd):=⟨_,rfl⟩
     have S8:Hid (Row W8 g #[.int .u8 1,.string sd,.string ⟨#[]⟩,.string ⟨#[]⟩,.slice none 0 0,.bool false,.bool false,.bool false,.bool false,.bool false,.bool false]):=Lib.hid (by
      have h:=S7.out.set 1 (.string sd)
      simp only [List.setIfInBounds_toArray,List.set_cons_zero,List.set_cons_succ] at h
      rw [hW8];exact h)
     have Q8:Hid (Row W8 (w.heap.size+1) (cW emW none 0)):=Lib.hid (by rw [hW8];exact Q7.out.other hgn 1 (.string sd))
     have X8:Hid (Below w.heap.size w W8):=Lib.hid (by rw [hW8];exact X7.out.setCell (p:=⟨g,1,none⟩) (by show w.heap.size≤g;omega) _)
     have HW8:=Lib.hid hW8
     clear hW8
     go_upto_region 10 with fail
     rw [←HW8.out]
     clear a0 a1 a2 a3 a4 a5 a6 a7 a8 a9 a10 f0 f1 f2 f3 f4 f5 f6 f7 f8 f9 f10
     have a0:W8.cell? ⟨g,0,none⟩=some _:=S8.out.at' 0 rfl
     have a1:W8.cell? ⟨g,1,none⟩=some _:=S8.out.at' 1 rfl
     have a2:W8.cell? ⟨g,2,none⟩=some _:=S8.out.at' 2 rfl
     have a3:W8.cell? ⟨g,3,none⟩=some _:=S8.out.at' 3 rfl
     have a4:W8.cell? ⟨g,4,none⟩=some _:=S8.out.at' 4 rfl
     have a5:W8.cell? ⟨g,5,none⟩=some _:=S8.out.at' 5 rfl
     have a6:W8.cell? ⟨g,6,none⟩=some _:=S8.out.at' 6 rfl
     have a7:W8.cell? ⟨g,7,none⟩=some _:=S8.out.at' 7 rfl
     have a8:W8.cell? ⟨g,8,none⟩=some _:=S8.out.at' 8 rfl
     have a9:W8.cell? ⟨g,9,none⟩=some _:=S8.out.at' 9 rfl
     have a10:W8.cell? ⟨g,10,none⟩=some _:=S8.out.at' 10 rfl
     have z0:W8.cell? ⟨w.heap.size+1,0,none⟩=some _:=Q8.out.at' 0 rfl
     have z1:W8.cell? ⟨w.heap.size+1,1,none⟩=some _:=Q8.out.at' 1 rfl
     have z2:W8.cell? ⟨w.heap.size+1,2,none⟩=some _:=Q8.out.at' 2 rfl
     have z3:W8.cell? ⟨w.heap.size+1,3,none⟩=some _:=Q8.out.at' 3 rfl
     have z4:W8.cell? ⟨w.heap.size+1,4,none⟩=some _:=Q8.out.at' 4 rfl
     have z5:W8.cell? ⟨w.heap.size+1,5,none⟩=some _:=Q8.out.at' 5 rfl
     have z6:W8.cell? ⟨w.heap.size+1,6,none⟩=some _:=Q8.out.at' 6 rfl
     have z7:W8.cell? ⟨w.heap.size+1,7,none⟩=some _:=Q8.out.at' 7 rfl
     have z8:W8.cell? ⟨w.heap.size+1,8,none⟩=some _:=Q8.out.at' 8 rfl
     have z9:W8.cell? ⟨w.heap.size+1,9,none⟩=some _:=Q8.out.at' 9 rfl
     have z10:W8.cell? ⟨w.heap.size+1,10,none⟩=some _:=Q8.out.at' 10 rfl
     have f0:W8.frozen? ⟨w.heap.size+1,0,none⟩=false:=Q8.out.fz 0
     have f1:W8.frozen? ⟨w.heap.size+1,1,none⟩=false:=Q8.out.fz 1
     have f2:W8.frozen? ⟨w.heap.size+1,2,none⟩=false:=Q8.out.fz 2
     have f3:W8.frozen? ⟨w.heap.size+1,3,none⟩=false:=Q8.out.fz 3
     have f4:W8.frozen? ⟨w.heap.size+1,4,none⟩=false:=Q8.out.fz 4
     have f5:W8.frozen? ⟨w.heap.size+1,5,none⟩=false:=Q8.out.fz 5
     have f6:W8.frozen? ⟨w.heap.size+1,6,none⟩=false:=Q8.out.fz 6
     have f7:W8.frozen? ⟨w.heap.size+1,7,none⟩=false:=Q8.out.fz 7
     have f8:W8.frozen? ⟨w.heap.size+1,8,none⟩=false:=Q8.out.fz 8
     have f9:W8.frozen? ⟨w.heap.size+1,9,none⟩=false:=Q8.out.fz 9
     have f10:W8.frozen? ⟨w.heap.size+1,10,none⟩=false:=Q8.out.fz 10
     go_wp2
     exact bodyPost_ret (v:=encW ⟨1,sd,emB,emB,[],false⟩ none 0)
      (by
       obtain⟨tt,hh⟩:=put11_row Q8.out (.int .u8 1) (.string sd) (.string ⟨#[]⟩) (.string ⟨#[]⟩) (.slice none 0 0) (.bool false) (.bool false) (.bool false) (.bool false) (.bool false) (.bool false)
       exact results_one (fn:=Tryz.f54) (p:=2) (ty:=56) rfl _ _ (w.heap.size+1) _ _ _ rfl hh Tryz.underlying56 (by kernel_rfl)) rfl
      (by rw [HP2.out];exact AskedPost.res (put11_below X8.out (by omega) _ _ _ _ _ _ _ _ _ _ _))
end Go.Proofs.YtnmnpnofdgdigaaGreatDoor
end
