/- Part 31 of a proof laid in parts, one behind the other; no condition of its own. -/
import Derived.Test.YtnmnpnofdgdigaaGreatDoorZ29
import Derived.Test.YtnmnpnofdgdigaaGreatDoorZ30
set_option linter.all false
section
namespace Go.Proofs.YtnmnpnofdgdigaaGreatDoor
open Go.RowKit
set_option linter.unusedSimpArgs false
set_option linter.unusedVariables false
theorem mn_le5 {x:Nat} (h:mn x≤500):x≤500:=by unfold mn at h;omega
def SmallN5 (n:NodeL):Prop:=n.space.size≤500∧n.name.size≤500∧n.text.size≤500∧n.attrs.length≤30∧∀(i:Nat) (a:AttrL),i < n.attrs.length→n.attrs[i]? = some a→SzA 500 a
def GreatP5 (v:List NodeL) (w:World) (e:Ending) (w':World):Prop:=
 ∃g,e=.returned (.bool g)∧Below w.heap.size w w'∧(g=false→v.length≤30∧∀(i:Nat) (n:NodeL),i < v.length→v[i]? = some n→SmallN5 n)
theorem GreatP5.yes {v:List NodeL} {w w':World} (h:Below w.heap.size w w'):GreatP5 v w (.returned (.bool true)) w':=⟨true,rfl,h,fun h=>by cases h⟩
theorem GreatP5.no {v:List NodeL} {w w':World} (h:Below w.heap.size w w') (h1:v.length≤30) (h2:∀(i:Nat) (n:NodeL),i < v.length→v[i]? = some n→SmallN5 n):GreatP5 v w (.returned (.bool false)) w':=⟨false,rfl,h,fun _=>⟨h1,h2⟩⟩
set_option maxHeartbeats 16000000 in
set_option maxRecDepth 10000 in
theorem great5_any (v:List NodeL) (A:Option Addr) (c:Nat) (w:World) (hr:RdV w w.heap.size A v) :
  Calls Tryz.prog 6 #[.slice A v.length c,.int .i64 30,.int .i64 500] w (GreatP5 v w):=by
 have HR:=Lib.hid hr
 clear hr
 go_enter Tryz.func6,Tryz.ntmps6
 go_wp2
 go_loopw [7,8,9,10] (fun s7 s8 _ _ wr=>∃(k:Nat) (t:Int),(k≤v.length∧k≤600)∧s7=.int .i64 t∧s8=.int .i64 k∧(0≤t∧t≤k*2000000)∧Hid (Below w.heap.size w wr)∧Hid (t≤500→∀(i:Nat) (n:NodeL),i < k→v[i]? = some n→SmallN5 n)) (fun _ s8 _ _ _=>v.length - (intOf s8).toNat)
 case atStart=>exact⟨0,0,⟨Nat.zero_le _,Nat.zero_le _⟩,rfl,rfl,⟨by omega,by omega⟩,Lib.hid (Below.refl _ _),Lib.hid (fun _ i n hi=>absurd hi (by omega))⟩
 case round=>
  obtain⟨k,t,⟨hk,hk6⟩,rfl,rfl,⟨ht0,ht1⟩,HB,HN⟩:=hrel
  by_cases hlt:k < v.length
  ·by_cases h600:k < 600
   ·obtain⟨n,hnn⟩:∃n,v[k]? = some n:=⟨_,List.getElem?_eq_getElem hlt⟩
    have HNN:=Lib.hid hnn
    obtain⟨b,off,rfl,hb,hc⟩:=(HR.out.below HB.out (Nat.le_refl _)) (by omega)
    obtain⟨d0,d1,d2,⟨A3,c3,d3,hl3,hA3⟩,d4,d5⟩:=hc k n hnn
    have HA3:=Lib.hid (hA3.more HB.out.size)
    have hbr:=Nat.lt_of_lt_of_le hb HB.out.size
    clear hc hnn d0 d5 hA3
    have G1:=Lib.hid (fun W (hW:Ext wr.drew W)=>((ext_below hW).cell (p:=⟨b,off+k*6+1,none⟩) hbr).trans d1)
    have G2:=Lib.hid (fun W (hW:Ext wr.drew W)=>((ext_below hW).cell (p:=⟨b,off+k*6+2,none⟩) hbr).trans d2)
    have G4:=Lib.hid (fun W (hW:Ext wr.drew W)=>((ext_below hW).cell (p:=⟨b,off+k*6+4,none⟩) hbr).trans d4)
    have D3:=Lib.hid d3
    clear d1 d2 d3 d4
    have m1:=mn_bd n.name.size
    have m2:=mn_bd n.space.size
    have m3:=mn_bd n.text.size
    go_wp2
    refine wp_region_typed rfl (by kernel_rfl) (by kernel_rfl) ?_
    repeat (first|refine tw_ixN0 hlt rfl rfl rfl (wdA rfl) ?_|refine tw_ldS rfl rfl G1.out (wdA rfl) ?_|refine tw_ldS rfl rfl G2.out (wdA rfl) ?_|refine tw_ldS rfl rfl G4.out (wdA rfl) ?_|refine tw_lens rfl rfl (wdA rfl) ?_|refine tw_min20 _ rfl rfl (wdA rfl) ?_|refine tw_addI (by omega) rfl rfl rfl (wdA rfl) ?_|refine tw_skip (wd_no rfl rfl rfl) ?_|refine tw_mv (.inl rfl) rfl (wdA rfl) ?_|refine tw_mv (.inr rfl) rfl (wdA rfl) ?_|refine tw_pickL rfl rfl rfl (wdA rfl) ?_|refine tw_op1 _ rfl rfl (wdA rfl) (fun ρ W hW h1=>by simp only [execOp,h1];go_simp;first|done|rfl) ?_|refine tw_op2 _ rfl rfl rfl (wdA rfl) (fun ρ W hW h1 h2=>by simp only [execOp,h1,h2];go_simp;first|done|rfl) ?_)
    dsimp only [wpT,List.reverse,List.reverseAux,FinT]
    intro W7 hW7 _
    simp only [Act.put,List.setIfInBounds_toArray,List.set_cons_zero,List.set_cons_succ]
    have hb7:Below wr.heap.size wr W7:=ext_below hW7
    have HB7:=Lib.hid (HB.out.trans (hb7.mono HB.out.size))
    have d3:=(hb7.cell (p:=⟨b,off+k*6+3,none⟩) hbr).trans D3.out
    have HA7:=Lib.hid ((HA3.out.below hb7 (Nat.le_refl _)).more hb7.size)
    have hb77:=Nat.lt_of_lt_of_le hbr hb7.size
    clear hW7 hb7 G1 G2 G4 D3 HA3
    obtain⟨t1,ht1'⟩:∃t1,t1=t+mn n.name.size+mn n.space.size+mn n.text.size:=⟨_,rfl⟩
    have HT1:=Lib.hid ht1'
    have q1:0≤t1∧t≤t1∧t1≤k*2000000+60000:=by omega
    rw [←ht1']
    clear ht1'
    by_cases h3x:30 < n.attrs.length
    ·have h3xi:(30:Int) < (n.attrs.length:Int):=by omega
     go_wp2
     go_ret
     exact GreatP5.yes HB7.out
    ·have h3xi:¬(30:Int) < (n.attrs.length:Int):=by omega
     by_cases h5h:500 < t1
     ·go_wp2
      go_ret
      exact GreatP5.yes HB7.out
     ·have hsm:n.space.size≤500∧n.name.size≤500∧n.text.size≤500:=by
       have:=HT1.out
       exact⟨mn_le5 (by omega),mn_le5 (by omega),mn_le5 (by omega)⟩
      clear m1 m2 m3
      go_wp2
      go_loopw [7,9,10] (fun s7 s9 _ wi=>∃(j:Nat) (t2:Int),j≤n.attrs.length∧s7=.int .i64 t2∧s9=.int .i64 j∧(t1≤t2∧t2≤t1+j*60000)∧Hid (Below W7.heap.size W7 wi)∧Hid (t2≤500→∀(i:Nat) (a:AttrL),i < j→n.attrs[i]? = some a→SzA 500 a)) (fun _ s9 _ _=>n.attrs.length - (intOf s9).toNat)
      case atStart=>exact⟨0,t1,Nat.zero_le _,rfl,rfl,⟨by omega,by omega⟩,Lib.hid (Below.refl _ _),Lib.hid (fun _ i a hi=>absurd hi (by omega))⟩
      case round=>
       obtain⟨j,t2,hj,rfl,rfl,⟨hu0,hu1⟩,HBI,HNI⟩:=hrel
       have e3:=(HBI.out.cell (p:=⟨b,off+k*6+3,none⟩) hb77).trans d3
       by_cases hlj:j < n.attrs.length
       ·obtain⟨a,ha⟩:∃a,n.attrs[j]? = some a:=⟨_,List.getElem?_eq_getElem hlj⟩
        have HA:=Lib.hid ha
        obtain⟨b3,o3,rfl,hb3,hc3⟩:=HA7.out (by omega)
        obtain⟨f0,f1,f2⟩:=hc3 j a ha
        have g0:=(HBI.out.cell (p:=⟨b3,o3+j*3,none⟩) hb3).trans f0
        have g1:=(HBI.out.cell (p:=⟨b3,o3+j*3+1,none⟩) hb3).trans f1
        have g2:=(HBI.out.cell (p:=⟨b3,o3+j*3+2,none⟩) hb3).trans f2
        have HXI:=Lib.hid (HBI.out.alloc HBI.out.size (.cells #[.string a.space,.string a.name,.string a.value] 75))
        have m1:=mn_bd a.name.size
        have m2:=mn_bd a.space.size
        have m3:=mn_bd a.value.size
        have HNJ:Hid (t2+mn a.name.size+mn a.space.size+mn a.value.size≤500→∀(i:Nat) (x:AttrL),i < j+1→n.attrs[i]? = some x→SzA 500 x):=Lib.hid (fun h i x hi hx=>by
         rcases Nat.lt_or_ge i j with h1|h1
         ·exact HNI.out (by omega) i x h1 hx
         ·obtain rfl:i=j:=by omega
          rw [HA.out] at hx
          simp only [Option.some.injEq] at hx
          subst hx
          exact⟨mn_le5 (by omega),mn_le5 (by omega),mn_le5 (by omega)⟩)
        clear f0 f1 f2 hc3 ha
        unfold mn at *
        go_wp2
        go_roundw
        case rel=>exact⟨j+1,t2+min (a.name.size:Int) 20000+min (a.space.size:Int) 20000+min (a.value.size:Int) 20000,by omega,by go_num,by go_num,⟨by omega,by omega⟩,HXI,HNJ⟩
        case measure=>simp [intOf];omega
       ·obtain rfl:j=n.attrs.length:=by omega
        have HBO:=Lib.hid (HB7.out.trans (HBI.out.mono HB7.out.size))
        have HNO:Hid (t2≤500→∀(i:Nat) (x:NodeL),i < k+1→v[i]? = some x→SmallN5 x):=Lib.hid (fun h i x hi hx=>by
         rcases Nat.lt_or_ge i k with h1|h1
         ·exact HN.out (by omega) i x h1 hx
         ·obtain rfl:i=k:=by omega
          rw [HNN.out] at hx
          simp only [Option.some.injEq] at hx
          subst hx
          exact⟨hsm.1,hsm.2.1,hsm.2.2,by omega,HNI.out h⟩)
        go_wp2
        go_roundw
        case rel=>exact⟨k+1,t2,⟨by omega,by omega⟩,rfl,by go_num,⟨by omega,by omega⟩,HBO,HNO⟩
        case measure=>simp [intOf];omega
   ·obtain rfl:k=600:=by omega
    have h60:(30:Int) < (v.length:Int):=by omega
    go_wp2
    go_ret
    exact GreatP5.yes HB.out
  ·obtain rfl:k=v.length:=by omega
   by_cases h60:(30:Int) < (v.length:Int)
   ·go_wp2
    go_ret
    exact GreatP5.yes HB.out
   ·by_cases h5h:500 < t
    ·go_wp2
     go_ret
     exact GreatP5.yes HB.out
    ·go_wp2
     go_ret
     exact GreatP5.no HB.out (by omega) (HN.out (by omega))
end Go.Proofs.YtnmnpnofdgdigaaGreatDoor
end
section
namespace Go.Proofs.YtnmnpnofdgdigaaGreatDoor
open Go.RowKit
set_option linter.unusedSimpArgs false
set_option linter.unusedVariables false
set_option maxHeartbeats 8000000 in
set_option maxRecDepth 10000 in
theorem same22_one (s:StL) (A1 A2:Option Addr) (c1 c2:Nat) (w:World) (h1:RdW w w.heap.size A1 s.load) (h2:RdW w w.heap.size A2 s.load) (hz:SzW s.load) :
  Calls Tryz.prog 10 #[encS s A1 c1,encS s A2 c2] w fun e w'=>e=.returned (.bool true)∧Below w.heap.size w w':=by
 obtain⟨W1,hW1⟩:∃W1,W1=w.alloc (.cells #[.int .u8 s.kind,.string s.typ,.string s.id,.string s.frm,.string s.to,.slice A1 s.load.length c1] 27):=⟨_,rfl⟩
 have hX1:Below w.heap.size w W1:=by rw [hW1];exact(Below.refl _ _).alloc (Nat.le_refl _) _
 have hS1:SAt W1 w.heap.size s A1 c1:=by rw [hW1];exact SAt.new _ _ _ _ _
 have hs1:W1.heap.size=w.heap.size+1:=by rw [hW1];simp
 obtain⟨W2,hW2⟩:∃W2,W2=W1.alloc (.cells #[.int .u8 s.kind,.string s.typ,.string s.id,.string s.frm,.string s.to,.slice A2 s.load.length c2] 27):=⟨_,rfl⟩
 have hX2:Below W1.heap.size W1 W2:=by rw [hW2];exact(Below.refl _ _).alloc (Nat.le_refl _) _
 have hS2:SAt W2 W1.heap.size s A2 c2:=by rw [hW2];exact SAt.new _ _ _ _ _
 rw [hs1] at hS2
 have S1:=Lib.hid (hS1.ext hX2)
 have S2:=Lib.hid hS2
 have X:=Lib.hid (hX1.trans (hX2.mono hX1.size))
 have H1:=Lib.hid (RdW.ext h1 X.out)
 have H2:=Lib.hid (RdW.ext h2 X.out)
 have HW1:=Lib.hid hW1
 have HW2:=Lib.hid hW2
 have HZ:=Lib.hid hz
 have hn:=hz.1
 clear hW1 hW2 hX1 hX2 hS1 hS2 h1 h2 hz hs1
 have a0:=S1.out.c0
 have a1:=S1.out.c1
 have a2:=S1.out.c2
 have a3:=S1.out.c3
 have a4:=S1.out.c4
 have a5:=S1.out.c5
 have b0:=S2.out.c0
 have b1:=S2.out.c1
 have b2:=S2.out.c2
 have b3:=S2.out.c3
 have b4:=S2.out.c4
 have b5:=S2.out.c5
 rw [HW2.out,HW1.out] at a5 b5
 unfold encS
 go_enter Tryz.func10,Tryz.ntmps10
 go_wp2
 rw [←HW1.out,←HW2.out]
 clear a0 a1 a2 a3 a4 a5 b0 b1 b2 b3 b4 b5
 go_loopw [5] (fun s5 wr=>∃k:Nat,k≤s.load.length∧s5=.int .i64 k∧Hid (Below W2.heap.size W2 wr)) (fun s5 _=>s.load.length - (intOf s5).toNat)
 case atStart=>exact⟨0,Nat.zero_le _,rfl,Lib.hid (Below.refl _ _)⟩
 case round=>
  obtain⟨k,hk,rfl,HB⟩:=hrel
  have T1:=Lib.hid (S1.out.ext HB.out)
  have T2:=Lib.hid (S2.out.ext HB.out)
  have a5:=T1.out.c5
  have b5:=T2.out.c5
  by_cases hlt:k < s.load.length
  ·obtain⟨v,hv⟩:∃v,s.load[k]? = some v:=⟨_,List.getElem?_eq_getElem hlt⟩
   have hzv:=HZ.out.2 v (List.mem_of_getElem? hv)
   obtain⟨g1,o1,rfl,hg1,hc1⟩:=(RdW.ext H1.out HB.out) (by omega)
   obtain⟨g2,o2,rfl,hg2,hc2⟩:=(RdW.ext H2.out HB.out) (by omega)
   obtain⟨A3,c3,d1,hl3,hA3⟩:=hc1 k v hv
   obtain⟨A4,c4,d2,hl4,hA4⟩:=hc2 k v hv
   have HSA:=Lib.hid (fun W (hW:Below wr.heap.size wr W)=>same_one v A3 A4 c3 c4 W (hA3.below hW (Nat.le_refl _) |>.more hW.size) (hA4.below hW (Nat.le_refl _) |>.more hW.size) hzv)
   have ES:=Lib.hid (enters_of (P:=Tryz.prog) Tryz.func11 (by kernel_rfl) rfl)
   have G1:=Lib.hid (fun W (hW:Ext wr.drew W)=>(T1.out.ext (ext_below hW)).c5)
   have G2:=Lib.hid (fun W (hW:Ext wr.drew W)=>(T2.out.ext (ext_below hW)).c5)
   have G3:=Lib.hid (fun W (hW:Ext wr.drew W)=>((ext_below hW).cell (p:=⟨g1,o1+k,none⟩) hg1).trans d1)
   have G4:=Lib.hid (fun W (hW:Ext wr.drew W)=>((ext_below hW).cell (p:=⟨g2,o2+k,none⟩) hg2).trans d2)
   clear d1 d2 hc1 hc2 hv hA3 hA4
   go_wp2
   refine wp_region_typed rfl (by kernel_rfl) (by kernel_rfl) ?_
   repeat (first|refine tw_ixW hlt hn rfl rfl rfl (wdA rfl) ?_|refine tw_ldW rfl rfl G1.out (wdA rfl) ?_|refine tw_ldW rfl rfl G2.out (wdA rfl) ?_|refine tw_ldV rfl rfl G3.out (wdA rfl) ?_|refine tw_ldV rfl rfl G4.out (wdA rfl) ?_|refine tw_fnB #[.slice A3 v.length c3,.slice A4 v.length c4] (.bool true) rfl (fun W=>ES.out _ W) rfl (wdA rfl) (fun W hW=>HSA.out W (ext_below hW)) ?_|refine tw_skip (wd_no rfl rfl rfl) ?_|refine tw_mv (.inl rfl) rfl (wdA rfl) ?_|refine tw_mv (.inr rfl) rfl (wdA rfl) ?_|refine tw_pickL rfl rfl rfl (wdA rfl) ?_|refine tw_op1 _ rfl rfl (wdA rfl) (fun ρ W hW h1=>by simp only [execOp,h1];go_simp;first|done|rfl) ?_|refine tw_op2 _ rfl rfl rfl (wdA rfl) (fun ρ W hW h1 h2=>by simp only [execOp,h1,h2];go_simp;first|done|rfl) ?_)
   dsimp only [wpT,List.reverse,List.reverseAux,FinT]
   intro W7 hW7 _
   simp only [Act.put,List.setIfInBounds_toArray,List.set_cons_zero,List.set_cons_succ]
   have HB1:=Lib.hid (HB.out.trans ((ext_below hW7).mono HB.out.size))
   clear hW7 G1 G2 G3 G4
   go_wp2
   go_roundw
   case rel=>exact⟨k+1,by omega,by go_num,HB1⟩
   case measure=>simp [intOf];omega
  ·obtain rfl:k=s.load.length:=by omega
   have a0:=T1.out.c0
   have a1:=T1.out.c1
   have a2:=T1.out.c2
   have a3:=T1.out.c3
   have a4:=T1.out.c4
   have b0:=T2.out.c0
   have b1:=T2.out.c1
   have b2:=T2.out.c2
   have b3:=T2.out.c3
   have b4:=T2.out.c4
   go_wp2
   go_ret
   exact⟨rfl,X.out.trans (HB.out.mono X.out.size)⟩
end Go.Proofs.YtnmnpnofdgdigaaGreatDoor
end
section
namespace Go.Proofs.YtnmnpnofdgdigaaGreatDoor
open Go.RowKit
set_option linter.unusedSimpArgs false
set_option linter.unusedVariables false
def SmallV5 (v:List NodeL):Prop:=v.length≤30∧∀(i:Nat) (n:NodeL),i < v.length→v[i]? = some n→SmallN5 n
def GreatS (s:StL) (w:World) (e:Ending) (w':World):Prop:=
 ∃g,e=.returned (.bool g)∧Below w.heap.size w w'∧(g=false→s.load.length≤20∧∀(i:Nat) (v:List NodeL),i < s.load.length→s.load[i]? = some v→SmallV5 v)
theorem GreatS.yes {s:StL} {w w':World} (h:Below w.heap.size w w'):GreatS s w (.returned (.bool true)) w':=⟨true,rfl,h,fun h=>by cases h⟩
theorem GreatS.no {s:StL} {w w':World} (h:Below w.heap.size w w') (h1:s.load.length≤20) (h2:∀(i:Nat) (v:List NodeL),i < s.load.length→s.load[i]? = some v→SmallV5 v):GreatS s w (.returned (.bool false)) w':=⟨false,rfl,h,fun _=>⟨h1,h2⟩⟩
set_option maxHeartbeats 8000000 in
set_option maxRecDepth 10000 in
theorem great22_any (s:StL) (A:Option Addr) (c:Nat) (w:World) (hz:SzS s) (hr:RdW w w.heap.size A s.load) :
  Calls Tryz.prog 12 #[encS s A c] w (GreatS s w):=by
 obtain⟨W1,hW1⟩:∃W1,W1=w.alloc (.cells #[.int .u8 s.kind,.string s.typ,.string s.id,.string s.frm,.string s.to,.slice A s.load.length c] 27):=⟨_,rfl⟩
 have hX1:Below w.heap.size w W1:=by rw [hW1];exact(Below.refl _ _).alloc (Nat.le_refl _) _
 have hS1:SAt W1 w.heap.size s A c:=by rw [hW1];exact SAt.new _ _ _ _ _
 have H1:=Lib.hid (RdW.ext hr hX1)
 have X:=Lib.hid hX1
 have S1:=Lib.hid hS1
 have HW1:=Lib.hid hW1
 obtain⟨_,z1,z2,z3,z4,zl⟩:=hz
 have hn:=zl.1
 have a0:=hS1.c0
 have a1:=hS1.c1
 have a2:=hS1.c2
 have a3:=hS1.c3
 have a4:=hS1.c4
 have a5:=hS1.c5
 rw [hW1] at a0 a1 a2 a3 a4 a5
 clear hW1 hX1 hS1 hr zl
 unfold encS
 by_cases h1:(500:Int) < (s.typ.size:Int)+(s.id.size:Int)
 ·go_enter Tryz.func12,Tryz.ntmps12
  go_wp2
  rw [←HW1.out]
  go_ret
  exact GreatS.yes X.out
 ·by_cases h2:(500:Int) < (s.frm.size:Int)+(s.to.size:Int)
  ·go_enter Tryz.func12,Tryz.ntmps12
   go_wp2
   rw [←HW1.out]
   go_ret
   exact GreatS.yes X.out
  ·by_cases h3:(20:Int) < (s.load.length:Int)
   ·go_enter Tryz.func12,Tryz.ntmps12
    go_wp2
    rw [←HW1.out]
    go_ret
    exact GreatS.yes X.out
   ·go_enter Tryz.func12,Tryz.ntmps12
    go_wp2
    rw [←HW1.out]
    clear a0 a1 a2 a3 a4 a5 z1 z2 z3 z4 h1 h2
    go_loopw [3] (fun s3 wr=>∃k:Nat,k≤s.load.length∧s3=.int .i64 k∧Hid (Below W1.heap.size W1 wr)∧Hid (∀(i:Nat) (v:List NodeL),i < k→s.load[i]? = some v→SmallV5 v)) (fun s3 _=>s.load.length - (intOf s3).toNat)
    case atStart=>exact⟨0,Nat.zero_le _,rfl,Lib.hid (Below.refl _ _),Lib.hid (fun i v hi=>absurd hi (by omega))⟩
    case round=>
     obtain⟨k,hk,rfl,HB,HN⟩:=hrel
     have T1:=Lib.hid (S1.out.ext HB.out)
     have HXB:=Lib.hid (X.out.trans (HB.out.mono X.out.size))
     have a5:=T1.out.c5
     by_cases hlt:k < s.load.length
     ·obtain⟨v,hv⟩:∃v,s.load[k]? = some v:=⟨_,List.getElem?_eq_getElem hlt⟩
      have HV:=Lib.hid hv
      obtain⟨g1,o1,rfl,hg1,hc1⟩:=(RdW.ext H1.out HB.out) (by omega)
      obtain⟨A3,c3,d1,hl3,hA3⟩:=hc1 k v hv
      have HSA:=Lib.hid (great5_any v A3 c3 wr hA3)
      clear hc1 hv hA3
      go_wp2_with fail
      refine HSA.out.mono ?_
      rintro e w7 ⟨g,rfl,hb7,hg7⟩
      have HB7:=Lib.hid (HB.out.trans (hb7.mono HB.out.size))
      have HXB7:=Lib.hid (X.out.trans (HB7.out.mono X.out.size))
      have HG7:=Lib.hid hg7
      clear hb7 hg7
      cases g
      ·have HN1:Hid (∀(i:Nat) (v:List NodeL),i < k+1→s.load[i]? = some v→SmallV5 v):=Lib.hid (fun i x hi hx=>by
        rcases Nat.lt_or_ge i k with h1|h1
        ·exact HN.out i x h1 hx
        ·obtain rfl:i=k:=by omega
         rw [HV.out] at hx
         simp only [Option.some.injEq] at hx
         subst hx
         exact HG7.out rfl)
       go_wp2
       go_roundw
       case rel=>exact⟨k+1,by omega,by go_num,HB7,HN1⟩
       case measure=>simp [intOf];omega
      ·go_wp2
       go_ret
       exact GreatS.yes HXB7.out
     ·obtain rfl:k=s.load.length:=by omega
      have h20:s.load.length≤20:=by omega
      go_wp2
      go_ret
      exact GreatS.no HXB.out h20 HN.out
end Go.Proofs.YtnmnpnofdgdigaaGreatDoor
end
section
namespace Go.Proofs.YtnmnpnofdgdigaaGreatDoor
open Go.RowKit
set_option linter.unusedSimpArgs false
set_option linter.unusedVariables false
def cW (x:WantL) (A:Option Addr) (c:Nat):Array Value:=#[.int .u8 x.kind,.string x.res,.string x.jid,.string x.name,.slice A x.groups.length c,.bool false,.bool false,.bool false,.bool false,.bool false,.bool x.gone]
def PtW (B:Nat):Ty:=.inr fun u W=>∃g,u=.pointer (some ⟨g,0,none⟩)∧B≤g∧Row W g (cW emW none 0)
theorem stable_ptW (B:Nat):Stable (PtW B):=fun u W W' h hx=>by
 obtain⟨g,h1,h2,h3⟩:=h
 exact⟨g,h1,h2,h3.ext hx⟩
section
variable {ops:Array Oper} {w0:World} {Fin:List Ty→Prop} {rest:List Oper} {E:Env} {Ts:List Ty} {o:Oper}
theorem tw_allocW (B:Nat) (hB:∀W,Ext w0 W→B≤W.heap.size) (hop:o.op=.alloc 56) (hw:Wd ops o E true)
  (hr:wpT Tryz.prog ops w0 Fin rest (E.put o.dst (PtW B)) (PtW B :: Ts)):wpT Tryz.prog ops w0 Fin (o :: rest) E Ts:=
 tw_val (PtW B) (stable_ptW B) hw (fun a W hW hs=>by
  refine⟨.pointer (some ⟨W.heap.size,0,none⟩),W.alloc (.cells #[.int .u8 0,.string ⟨#[]⟩,.string ⟨#[]⟩,.string ⟨#[]⟩,.slice none 0 0,.bool false,.bool false,.bool false,.bool false,.bool false,.bool false] 56),?_,(Below.refl _ W).alloc (Nat.le_refl _) _,W.heap.size,rfl,hB W hW,Row.new W _ _⟩
  unfold execOp
  simp only [hop]
  go_simp
  try rfl) hr
def itemJ (j:ByteArray):WantL:=⟨0,emB,j,emB,[],false⟩
theorem tw_bldI {x:Operand} (j:ByteArray) (hop:o.op=.build 54 #[(0,x)]) (hx:evalE E x=some (.string j)) (hw:Wd ops o E true)
  (hr:wpT Tryz.prog ops w0 Fin rest (E.put o.dst (.inl (encI (itemJ j) none 0))) (.inl (encI (itemJ j) none 0) :: Ts)):wpT Tryz.prog ops w0 Fin (o :: rest) E Ts:=
 tw_pure _ hw (fun a W hW hs=>by
  have h1:a.eval x=_:=evalE_of hx (by rw [hop];simp [Op.operands]) hs
  unfold execOp encI itemJ
  dsimp only
  simp only [hop,List.map_toArray,List.map_cons,List.map_nil,h1]
  go_simp
  try rfl) hr
def wantG (j:ByteArray) (b:Bool):WantL:=⟨3,emB,j,emB,[],b⟩
theorem tw_bldW {x y:Operand} (j:ByteArray) (b:Bool) (hop:o.op=.build 56 #[(0,.const (.int .u8 3)),(2,x),(3,y)]) (hx:evalE E x=some (encI (itemJ j) none 0)) (hy:evalE E y=some (.bool b)) (hw:Wd ops o E true)
  (hr:wpT Tryz.prog ops w0 Fin rest (E.put o.dst (.inl (encW (wantG j b) none 0))) (.inl (encW (wantG j b) none 0) :: Ts)):wpT Tryz.prog ops w0 Fin (o :: rest) E Ts:=
 tw_pure _ hw (fun a W hW hs=>by
  have h1:a.eval x=_:=evalE_of hx (by rw [hop];simp [Op.operands]) hs
  have h2:a.eval y=_:=evalE_of hy (by rw [hop];simp [Op.operands]) hs
  have h3:a.eval (.const (.int .u8 3))=.int .u8 3:=rfl
  unfold execOp encW wantG
  unfold encI itemJ at h1
  dsimp only at h1 ⊢
  simp only [hop,List.map_toArray,List.map_cons,List.map_nil,h1,h2,h3]
  go_simp
  try rfl) hr
end
end Go.Proofs.YtnmnpnofdgdigaaGreatDoor
end
section
namespace Go.Proofs.YtnmnpnofdgdigaaGreatDoor
open Go.RowKit
set_option linter.unusedSimpArgs false
set_option linter.unusedVariables false
def put11 (w:World) (g:Nat) (u0 u1 u2 u3 u4 u5 u6 u7 u8 u9 u10:Value):World:=
 ((((((((((w.setCell ⟨g,0,none⟩ u0).setCell ⟨g,1,none⟩ u1).setCell ⟨g,2,none⟩ u2).setCell ⟨g,3,none⟩ u3).setCell ⟨g,4,none⟩ u4).setCell ⟨g,5,none⟩ u5).setCell ⟨g,6,none⟩ u6).setCell ⟨g,7,none⟩ u7).setCell ⟨g,8,none⟩ u8).setCell ⟨g,9,none⟩ u9).setCell ⟨g,10,none⟩ u10
theorem put11_row {w:World} {g:Nat} {x:WantL} {A:Option Addr} {c:Nat} (h:Row w g (cW x A c)) (u0 u1 u2 u3 u4 u5 u6 u7 u8 u9 u10:Value):Row (put11 w g u0 u1 u2 u3 u4 u5 u6 u7 u8 u9 u10) g #[u0,u1,u2,u3,u4,u5,u6,u7,u8,u9,u10]:=by
 unfold put11
 unfold cW at h
 have h:=h.set 0 u0
 simp only [List.setIfInBounds_toArray,List.set_cons_zero,List.set_cons_succ] at h
 have h:=h.set 1 u1
 simp only [List.setIfInBounds_toArray,List.set_cons_zero,List.set_cons_succ] at h
 have h:=h.set 2 u2
 simp only [List.setIfInBounds_toArray,List.set_cons_zero,List.set_cons_succ] at h
 have h:=h.set 3 u3
 simp only [List.setIfInBounds_toArray,List.set_cons_zero,List.set_cons_succ] at h
 have h:=h.set 4 u4
 simp only [List.setIfInBounds_toArray,List.set_cons_zero,List.set_cons_succ] at h
 have h:=h.set 5 u5
 simp only [List.setIfInBounds_toArray,List.set_cons_zero,List.set_cons_succ] at h
 have h:=h.set 6 u6
 simp only [List.setIfInBounds_toArray,List.set_cons_zero,List.set_cons_succ] at h
 have h:=h.set 7 u7
 simp only [List.setIfInBounds_toArray,List.set_cons_zero,List.set_cons_succ] at h
 have h:=h.set 8 u8
 simp only [List.setIfInBounds_toArray,List.set_cons_zero,List.set_cons_succ] at h
 have h:=h.set 9 u9
 simp only [List.setIfInBounds_toArray,List.set_cons_zero,List.set_cons_succ] at h
 have h:=h.set 10 u10
 simp only [List.setIfInBounds_toArray,List.set_cons_zero,List.set_cons_succ] at h
 exact h
theorem put11_below {B:Nat} {w w0:World} {g:Nat} (h:Below B w0 w) (hg:B≤g) (u0 u1 u2 u3 u4 u5 u6 u7 u8 u9 u10:Value):Below B w0 (put11 w g u0 u1 u2 u3 u4 u5 u6 u7 u8 u9 u10):=
 ((((((((((h.setCell (p:=⟨g,0,none⟩) hg u0).setCell (p:=⟨g,1,none⟩) hg u1).setCell (p:=⟨g,2,none⟩) hg u2).setCell (p:=⟨g,3,none⟩) hg u3).setCell (p:=⟨g,4,none⟩) hg u4).setCell (p:=⟨g,5,none⟩) hg u5).setCell (p:=⟨g,6,none⟩) hg u6).setCell (p:=⟨g,7,none⟩) hg u7).setCell (p:=⟨g,8,none⟩) hg u8).setCell (p:=⟨g,9,none⟩) hg u9).setCell (p:=⟨g,10,none⟩) hg u10
theorem put11_other {w:World} {g b:Nat} (hb:b≠g) (u0 u1 u2 u3 u4 u5 u6 u7 u8 u9 u10:Value):(put11 w g u0 u1 u2 u3 u4 u5 u6 u7 u8 u9 u10).heap[b]? = w.heap[b]?:=by
 unfold put11
 iterate 11 rw [heap_setCell_other _ _ b _ hb]
theorem put11_size (w:World) (g:Nat) (u0 u1 u2 u3 u4 u5 u6 u7 u8 u9 u10:Value):w.heap.size≤(put11 w g u0 u1 u2 u3 u4 u5 u6 u7 u8 u9 u10).heap.size:=(put11_below (Below.refl 0 w) (Nat.zero_le g) u0 u1 u2 u3 u4 u5 u6 u7 u8 u9 u10).size
def RdSB (B:Nat) (w:World) (A:Option Addr) (l:List ByteArray):Prop:=0 < l.length→∃b off,A=some ⟨b,off,none⟩∧B≤b∧b < w.heap.size∧∀(i:Nat) (s:ByteArray),l[i]? = some s→w.cell? ⟨b,off+i,none⟩=some (.string s)
theorem RdSB.rds {B:Nat} {w:World} {A:Option Addr} {l:List ByteArray} (h:RdSB B w A l):RdS w A l:=fun h0=>by
 obtain⟨b,off,h1,-,h2,h3⟩:=h h0
 exact⟨b,off,h1,h2,h3⟩
theorem RdSB.mono {B B':Nat} {w:World} {A:Option Addr} {l:List ByteArray} (h:RdSB B w A l) (hb:B'≤B):RdSB B' w A l:=fun h0=>by
 obtain⟨b,off,h1,h4,h2,h3⟩:=h h0
 exact⟨b,off,h1,Nat.le_trans hb h4,h2,h3⟩
theorem RdSB.keep {B:Nat} {w w':World} {A:Option Addr} {l:List ByteArray} (h:RdSB B w A l) (hs:w.heap.size≤w'.heap.size) (hk:∀b,B≤b→b < w.heap.size→w'.heap[b]? = w.heap[b]?):RdSB B w' A l:=fun h0=>by
 obtain⟨b,off,h1,h4,h2,h3⟩:=h h0
 refine⟨b,off,h1,h4,Nat.lt_of_lt_of_le h2 hs,fun i s hi=>?_⟩
 rw [←h3 i s hi]
 simp only [World.cell?,hk b h4 h2]
theorem rds_own {base n c:Nat} {A:Option Addr} {w:World} {l:List ByteArray} (h:w.ownsRow base 9 1 (.slice A n c) n (cellsS l)) (hn:n=l.length):RdSB base w A l:=fun h0=>by
 subst hn
 obtain⟨g,rfl,h1,h2⟩:=own_some h h0
 refine⟨g,0,rfl,h1,h2,fun i s hs=>?_⟩
 rw [Nat.zero_add,h.cellAt i (by have:=(List.getElem?_eq_some_iff.1 hs).1;omega)]
 simp [cellsS,hs]
def setR (v:List NodeL):WantL:=if oneIt v then setW v else emW
def SetPost (v:List NodeL) (w:World) (e:Ending) (w':World):Prop:=
 ∃A c,e=.returned (.tuple #[encW (setR v) A c,.bool (oneIt v)])∧(setR v).groups.length≤c∧RdSB w.heap.size w' A (setR v).groups∧Below w.heap.size w w'
theorem rdw_keep {base g n c:Nat} {A:Option Addr} {w wr:World} {ts:List TreeH} (h:RowT base (.slice A n c) w ts) (hn:n=ts.length) (hg:g < base) (hs:w.heap.size≤wr.heap.size)
  (hk:∀b,b < w.heap.size→b≠g→wr.heap[b]? = w.heap[b]?):RdW wr wr.heap.size A (ts.map (·.1)):=by
 obtain⟨T,hT⟩:∃T:World,T={ wr with heap:=wr.heap.extract 0 w.heap.size}:=⟨_,rfl⟩
 have hTs:T.heap.size=w.heap.size:=by rw [hT];simp;omega
 have hTb:∀b,b < w.heap.size→T.heap[b]? = wr.heap[b]?:=fun b hb=>by
  rw [hT]
  simp only [Array.getElem?_extract]
  rw [if_pos (by omega),Nat.zero_add]
 have h1:RowT base (.slice A n c) T ts:=h.at (by omega) (fun k hk1 hk2=>(hTb k hk2).trans (hk k hk2 (by omega)))
 have h2:=h1.rdw hn
 exact RdW.ext h2 ⟨by rw [hT],by rw [hT],by rw [hT],by omega,fun k hk1=>(hTb k (by omega)).symm⟩
def SlS1 (s:ByteArray):Ty:=.inr fun u W=>∃g,u=.slice (some ⟨g,0,none⟩) 1 1∧W.heap[g]? = some (.cells #[.string s] 9 (0,0))
theorem stable_sls1 (s:ByteArray):Stable (SlS1 s):=fun u W W' h hx=>by
 obtain⟨g,h1,h2⟩:=h
 exact⟨g,h1,heap_ext h2 hx⟩
theorem tw_newS {ops:Array Oper} {w0:World} {Fin:List Ty→Prop} {rest:List Oper} {E:Env} {Ts:List Ty} {o:Oper} {x:Operand} (s:ByteArray) (hop:o.op=.buildSlice 50 1 #[(0,x)]) (hx:evalE E x=some (.string s)) (hw:Wd ops o E true)
  (hr:wpT Tryz.prog ops w0 Fin rest (E.put o.dst (SlS1 s)) (SlS1 s :: Ts)):wpT Tryz.prog ops w0 Fin (o :: rest) E Ts:=
 tw_val (SlS1 s) (stable_sls1 _) hw (fun ac W hW hs=>by
  have h1:ac.eval x=_:=evalE_of hx (by rw [hop];simp [Op.operands]) hs
  refine⟨.slice (some ⟨W.heap.size,0,none⟩) 1 1,W.alloc (.cells #[.string s] 9),?_,(Below.refl _ W).alloc (Nat.le_refl _) _,W.heap.size,rfl,heap_alloc_new W _⟩
  unfold execOp
  simp only [hop,List.map_toArray,List.map_cons,List.map_nil,h1]
  go_simp) hr
theorem tw_ldL {ops:Array Oper} {w0:World} {Fin:List Ty→Prop} {rest:List Oper} {E:Env} {Ts:List Ty} {o:Oper} {x:Operand} {p:Addr} {A:Option Addr} {m c:Nat} (hop:o.op=.load 50 x) (hE:evalE E x=some (.pointer (some p))) (hc:∀W,Ext w0 W→W.cell? p=some (.slice A m c)) (hw:Wd ops o E true)
  (hr:wpT Tryz.prog ops w0 Fin rest (E.put o.dst (.inl (.slice A m c))) (.inl (.slice A m c) :: Ts)):wpT Tryz.prog ops w0 Fin (o :: rest) E Ts:=
 tw_pure (.slice A m c) hw (fun a W hW hs=>by
  have h1:a.eval x=.pointer (some p):=evalE_of hE (by rw [hop];simp [Op.operands]) hs
  have h2:=hc W hW
  unfold execOp
  simp only [hop,h1]
  go_simp) hr
theorem rd_s1 {W:World} {g:Nat} {s:ByteArray} (h:W.heap[g]? = some (.cells #[.string s] 9 (0,0))):Rd W (g+1) 1 (some ⟨g,0,none⟩) 1 (cellsS [s]):=by
 refine⟨rfl,fun _=>⟨g,0,rfl,Nat.lt_succ_self _,fun j u hu=>?_⟩⟩
 rw [Nat.zero_add,cell_of_row W g j _ _ _ h]
 simpa [cellsS] using hu
end Go.Proofs.YtnmnpnofdgdigaaGreatDoor
end
