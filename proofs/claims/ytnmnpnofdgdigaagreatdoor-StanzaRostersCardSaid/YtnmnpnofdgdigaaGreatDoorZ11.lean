/- Part 11 of a proof laid in parts, one behind the other; no condition of its own. -/
import Derived.Test.YtnmnpnofdgdigaaGreatDoorZ10
set_option linter.all false
section
namespace Go.Proofs.YtnmnpnofdgdigaaGreatDoor
open Go.RowKit
set_option linter.unusedSimpArgs false
set_option linter.unusedVariables false
theorem JAt.oth {w:World} {g:Nat} {l d r:ByteArray} (h:JAt w g l d r) (g' o:Nat) (hne:g≠g') (u:Value):JAt (w.setCell ⟨g',o,none⟩ u) g l d r:=h.other hne u
theorem cut_at {s:ByteArray} {c:Int} {i:Nat} (h:fstL (numsOf s) c=some i):cutI s c=(s.extract 0 i,s.extract (i+1) s.size,true)∧i < s.size:=by
 refine⟨by unfold cutI;rw [h],?_⟩
 have h1:=(List.getElem?_eq_some_iff.1 (fstL_some h).1).1
 rwa [numsOf_length] at h1
theorem cut_none {s:ByteArray} {c:Int} (h:fstL (numsOf s) c=none):cutI s c=(s,⟨#[]⟩,false):=by unfold cutI;rw [h]
theorem sl_head (s:ByteArray) (i:Nat) (hi:i < s.size) (hs:s.size≤1000000000):∀W,(Instr.slice 9 (.string s) none (some (.int .i64 (i:Int))) none).run Tryz.prog W=.ok (.string (s.extract 0 i)) W:=fun W=>
 run_slice_string_h (P:=Tryz.prog) (w:=W) (t:=9) (s:=s) Tryz.underlying9 .i64 (i:Int) (by omega) (by omega)
theorem sl_tail (s:ByteArray) (i:Nat) (hi:i < s.size) (hs:s.size≤1000000000):∀W,(Instr.slice 9 (.string s) (some (.int .i64 ((i:Int)+1))) none none).run Tryz.prog W=.ok (.string (s.extract (i+1) s.size)) W:=fun W=>by
 have h1:=run_slice_string_l (P:=Tryz.prog) (w:=W) (t:=9) (s:=s) Tryz.underlying9 .i64 ((i:Int)+1) (by omega) (by omega)
 rwa [show((i:Int)+1).toNat=i+1 by omega] at h1
set_option maxHeartbeats 16000000 in
set_option maxRecDepth 10000 in
theorem refjparse_any (s:ByteArray) (w:World) (hs:s.size≤1000000000):Calls Tryz.prog 149 #[.string s] w (ParsePost s w):=by
 have hz1:=cut_sz s 47
 have hz3:=lowI_size (cutI s 47).1
 have hz4:=readJ_sz s
 have H1:=Lib.hid (fun W=>at_any s 47 W hs (by decide) (by decide))
 have H2:=Lib.hid (fun W=>reflower_any (cutI s 47).1 W (by omega))
 have H3:=Lib.hid (fun W=>at_any (lowI (cutI s 47).1) 64 W (by omega) (by decide) (by decide))
 have H4:=Lib.hid (fun W=>refjmay_any (readJ s) W ⟨by omega,by omega,by omega⟩)
 have H5:=Lib.hid (fun W=>reftext_any (readJ s) W ⟨by omega,by omega,by omega⟩)
 have HLS:Hid ((lowI (cutI s 47).1).size≤1000000000):=Lib.hid (by omega)
 have HPS:Hid ((cutI s 47).2.1.size≤1000000000):=Lib.hid (by omega)
 have HP:Box (parseI s=if (hasL s && isEmp (readJ s).loc || hasR s && isEmp (readJ s).res || !jidI (readJ s)) then none else some (readJ s)):=⟨rfl⟩
 have HLAW:=Box.mk (parse_law s)
 have HW:Box (wantJ s=if hasR s then lowI (cutI s 47).1++(⟨#[47]⟩:ByteArray)++(readJ s).res else lowI (cutI s 47).1):=⟨rfl⟩
 have HR:Box (readJ s=if hasL s then⟨(cutI (lowI (cutI s 47).1) 64).1,(cutI (lowI (cutI s 47).1) 64).2.1,(cutI s 47).2.1⟩ else⟨emB,lowI (cutI s 47).1,(cutI s 47).2.1⟩):=⟨rfl⟩
 have HL:Box (hasL s=(cutI (lowI (cutI s 47).1) 64).2.2):=⟨rfl⟩
 have HB:Box (hasR s=(cutI s 47).2.2):=⟨rfl⟩
 have HV:Box (ParsePost s w=fun e w'=>e=.returned (.tuple #[encJ (parsedJ s),.int .i64 (parseE s)])∧Below w.heap.size w w'):=⟨rfl⟩
 have HD:Box (parsedJ s=(parseI s).getD emJ∧parseE s=if (parseI s).isSome then 0 else 190):=⟨⟨rfl,rfl⟩⟩
 rw [HV.out]
 have hsa:∀a b:ByteArray,(a++b).size=a.size+b.size:=fun a b=>by simp
 have s47:((⟨#[47]⟩:ByteArray)).size=1:=rfl
 unfold eqS at HLAW
 generalize parsedJ s=pj at *
 generalize parseE s=pe at *
 generalize parseI s=pi at *
 generalize hasL s=bL at *
 generalize hasR s=bR at *
 generalize readJ s=j at *
 generalize wantJ s=wt at *
 clear hz1 hz3 hz4 HV
 obtain⟨W0,hW0⟩:∃W0,W0=(w.alloc (.cells #[.string ⟨#[]⟩,.string ⟨#[]⟩,.string ⟨#[]⟩] 102)).alloc (.cells #[.string ⟨#[]⟩,.string ⟨#[]⟩,.string ⟨#[]⟩] 102):=⟨_,rfl⟩
 have hX0:Below w.heap.size w W0:=by rw [hW0];exact((Below.refl _ _).alloc (Nat.le_refl _) _).alloc (by simp) _
 have hR0:JAt W0 w.heap.size emB emB emB:=by rw [hW0];exact(JAt.new w _ _ _ _).ext ((Below.refl _ _).alloc (Nat.le_refl _) _)
 have hJ0:JAt W0 (w.heap.size+1) emB emB emB:=by
  rw [hW0]
  have h:=JAt.new (w.alloc (.cells #[.string ⟨#[]⟩,.string ⟨#[]⟩,.string ⟨#[]⟩] 102)) 102 ⟨#[]⟩ ⟨#[]⟩ ⟨#[]⟩
  show JAt _ _ ⟨#[]⟩ ⟨#[]⟩ ⟨#[]⟩
  simpa using h
 have HR0:=Lib.hid hR0
 have HJ0:=Lib.hid hJ0
 have HX0:=Lib.hid hX0
 have HWE:=Lib.hid hW0
 clear hW0 hX0 hJ0 hR0
 cases hn:fstL (numsOf s) 47 with
 | none=>
  have hcut:=cut_none hn
  rw [hn] at H1
  unfold placeI at H1
  rw [hcut] at HB HR H2 H3 HW HLS HPS HL
  dsimp only at HR HW H2 H3 HLS HPS HL
  clear HPS
  have HBb:Box (bR=false):=⟨HB.out⟩
  clear hn hcut
  generalize lowI s=L at *
  cases hk:fstL (numsOf L) 64 with
  | none=>
   have hcut2:=cut_none hk
   rw [hk] at H3
   unfold placeI at H3
   rw [hcut2] at HL HR
   have HLb:Box (bL=false):=⟨HL.out⟩
   clear hk hcut2
   have hLs:=HLS.out
   have hj:j=⟨emB,L,emB⟩:=by rw [HR.out,HLb.out];rfl
   subst hj
   clear HR
   generalize jidI ⟨emB,L,emB⟩=jv at *
   generalize textJ ⟨emB,L,emB⟩=T at *
   unfold encJ at H4 H5
   try unfold emB at H4
   try unfold emB at H5
   have HWT:Box (wt=L):=⟨by rw [HW.out,HBb.out];rfl⟩
   clear HW
   rw [HWT.out] at HLAW
   obtain⟨bad,hbad⟩:∃bad,(bL && isEmp (JidL.mk emB  L  emB).loc || bR && isEmp (JidL.mk emB  L  emB).res)=bad:=⟨_,rfl⟩
   rw [hbad] at HLAW HP
   have hcmp:=HLAW.out
   cases jv
   ·have HD1:Box (pj=emJ):=⟨by rw [HD.out.1,HP.out];simp⟩
    have HD2:Box (pe=190):=⟨by rw [HD.out.2,HP.out];simp⟩
    go_enter Tryz.func149,Tryz.ntmps149
    go_wp2_with fail
    rw [←HWE.out]
    refine(H1.out _).mono ?_
    rintro e w1 ⟨rfl,rfl⟩
    have cj0:=HJ0.out.c0
    have cj1:=HJ0.out.c1
    have cj2:=HJ0.out.c2
    have fj0:=HJ0.out.fz 0
    have fj1:=HJ0.out.fz 1
    have fj2:=HJ0.out.fz 2
    go_wp2_with fail
    refine(H2.out _).mono ?_
    rintro e w2 ⟨rfl,hb2⟩
    have J2:=Lib.hid (HJ0.out.ext hb2)
    have R2:=Lib.hid (HR0.out.ext hb2)
    have X2:=Lib.hid (HX0.out.trans (hb2.mono HX0.out.size))
    clear hb2
    clear cj0 cj1 cj2 fj0 fj1 fj2
    have cj0:=J2.out.c0
    have cj1:=J2.out.c1
    have cj2:=J2.out.c2
    have fj0:=J2.out.fz 0
    have fj1:=J2.out.fz 1
    have fj2:=J2.out.fz 2
    go_wp2_with fail
    refine(H3.out _).mono ?_
    rintro e w3 ⟨rfl,rfl⟩
    have J3:=Lib.hid (J2.out.set1 L)
    have R3:=Lib.hid (R2.out.oth (w.heap.size+1) 1 (by omega) (.string L))
    have X3:=Lib.hid ((X2.out.setCell (p:=⟨w.heap.size+1,1,none⟩) (by first|exact Nat.le_refl _|exact Nat.le_succ _) (.string L)))
    have g0:=J3.out.c0
    have g1:=J3.out.c1
    have g2:=J3.out.c2
    go_wp2_with fail
    refine(H4.out _).mono ?_
    rintro e w4 ⟨rfl,hb4⟩
    have J4:=Lib.hid (J3.out.ext hb4)
    have R4:=Lib.hid (R3.out.ext hb4)
    have X4:=Lib.hid (X3.out.trans (hb4.mono X3.out.size))
    clear hb4 g0 g1 g2
    clear cj0 cj1 cj2 fj0 fj1 fj2
    have cj0:=J4.out.c0
    have cj1:=J4.out.c1
    have cj2:=J4.out.c2
    have fj0:=J4.out.fz 0
    have fj1:=J4.out.fz 1
    have fj2:=J4.out.fz 2
    have cr0:=R4.out.c0
    have cr1:=R4.out.c1
    have cr2:=R4.out.c2
    have fr0:=R4.out.fz 0
    have fr1:=R4.out.fz 1
    have fr2:=R4.out.fz 2
    go_wp2
    have JZ:=((R4.out.set0 emB).set1 emB).set2 emB
    have XZ:=(((X4.out.setCell (p:=⟨w.heap.size,0,none⟩) (by first|exact Nat.le_refl _|exact Nat.le_succ _) (.string ⟨#[]⟩)).setCell (p:=⟨w.heap.size,1,none⟩) (by first|exact Nat.le_refl _|exact Nat.le_succ _) (.string ⟨#[]⟩)).setCell (p:=⟨w.heap.size,2,none⟩) (by first|exact Nat.le_refl _|exact Nat.le_succ _) (.string ⟨#[]⟩))
    obtain⟨tt,hh⟩:=JZ
    exact bodyPost_ret (v:=.tuple #[encJ emJ,.int .i64 190])
     (results_jid (fn:=Tryz.f149) (p:=2) (s:=3) (ty:=102) rfl _ _ w.heap.size _ _ _ _ rfl rfl hh Tryz.underlying102 (by kernel_rfl)) rfl ⟨by rw [HD1.out,HD2.out],XZ⟩
   ·cases bad
    all_goals
     try rw [Bool.not_false] at hcmp
     try rw [Bool.not_true] at hcmp
     clear hbad
    ·have HD1:Box (pj=⟨emB,L,emB⟩):=⟨by rw [HD.out.1,HP.out];rfl⟩
     have HD2:Box (pe=0):=⟨by rw [HD.out.2,HP.out];rfl⟩
     go_enter Tryz.func149,Tryz.ntmps149
     go_wp2_with fail
     rw [←HWE.out]
     refine(H1.out _).mono ?_
     rintro e w1 ⟨rfl,rfl⟩
     have cj0:=HJ0.out.c0
     have cj1:=HJ0.out.c1
     have cj2:=HJ0.out.c2
     have fj0:=HJ0.out.fz 0
     have fj1:=HJ0.out.fz 1
     have fj2:=HJ0.out.fz 2
     go_wp2_with fail
     refine(H2.out _).mono ?_
     rintro e w2 ⟨rfl,hb2⟩
     have J2:=Lib.hid (HJ0.out.ext hb2)
     have R2:=Lib.hid (HR0.out.ext hb2)
     have X2:=Lib.hid (HX0.out.trans (hb2.mono HX0.out.size))
     clear hb2
     clear cj0 cj1 cj2 fj0 fj1 fj2
     have cj0:=J2.out.c0
     have cj1:=J2.out.c1
     have cj2:=J2.out.c2
     have fj0:=J2.out.fz 0
     have fj1:=J2.out.fz 1
     have fj2:=J2.out.fz 2
     go_wp2_with fail
     refine(H3.out _).mono ?_
     rintro e w3 ⟨rfl,rfl⟩
     have J3:=Lib.hid (J2.out.set1 L)
     have R3:=Lib.hid (R2.out.oth (w.heap.size+1) 1 (by omega) (.string L))
     have X3:=Lib.hid ((X2.out.setCell (p:=⟨w.heap.size+1,1,none⟩) (by first|exact Nat.le_refl _|exact Nat.le_succ _) (.string L)))
     have g0:=J3.out.c0
     have g1:=J3.out.c1
     have g2:=J3.out.c2
     go_wp2_with fail
     refine(H4.out _).mono ?_
     rintro e w4 ⟨rfl,hb4⟩
     have J4:=Lib.hid (J3.out.ext hb4)
     have R4:=Lib.hid (R3.out.ext hb4)
     have X4:=Lib.hid (X3.out.trans (hb4.mono X3.out.size))
     clear hb4 g0 g1 g2
     clear cj0 cj1 cj2 fj0 fj1 fj2
     have cj0:=J4.out.c0
     have cj1:=J4.out.c1
     have cj2:=J4.out.c2
     have fj0:=J4.out.fz 0
     have fj1:=J4.out.fz 1
     have fj2:=J4.out.fz 2
     go_wp2_with fail
     refine(H5.out _).mono ?_
     rintro e w5 ⟨rfl,hb5⟩
     have J5:=Lib.hid (J4.out.ext hb5)
     have R5:=Lib.hid (R4.out.ext hb5)
     have X5:=Lib.hid (X4.out.trans (hb5.mono X4.out.size))
     clear hb5
     clear cj0 cj1 cj2 fj0 fj1 fj2
     have cj0:=J5.out.c0
     have cj1:=J5.out.c1
     have cj2:=J5.out.c2
     have fj0:=J5.out.fz 0
     have fj1:=J5.out.fz 1
     have fj2:=J5.out.fz 2
     have cr0:=R5.out.c0
     have cr1:=R5.out.c1
     have cr2:=R5.out.c2
     have fr0:=R5.out.fz 0
     have fr1:=R5.out.fz 1
     have fr2:=R5.out.fz 2
     go_wp2
     have JZ:=((R5.out.set0 emB).set1 L).set2 emB
     have XZ:=(((X5.out.setCell (p:=⟨w.heap.size,0,none⟩) (by first|exact Nat.le_refl _|exact Nat.le_succ _) (.string ⟨#[]⟩)).setCell (p:=⟨w.heap.size,1,none⟩) (by first|exact Nat.le_refl _|exact Nat.le_succ _) (.string L)).setCell (p:=⟨w.heap.size,2,none⟩) (by first|exact Nat.le_refl _|exact Nat.le_succ _) (.string ⟨#[]⟩))
     obtain⟨tt,hh⟩:=JZ
     exact bodyPost_ret (v:=.tuple #[encJ ⟨emB,L,emB⟩,.int .i64 0])
      (results_jid (fn:=Tryz.f149) (p:=2) (s:=3) (ty:=102) rfl _ _ w.heap.size _ _ _ _ rfl rfl hh Tryz.underlying102 (by kernel_rfl)) rfl ⟨by rw [HD1.out,HD2.out],XZ⟩
    ·have HD1:Box (pj=emJ):=⟨by rw [HD.out.1,HP.out];simp⟩
     have HD2:Box (pe=190):=⟨by rw [HD.out.2,HP.out];simp⟩
     go_enter Tryz.func149,Tryz.ntmps149
     go_wp2_with fail
     rw [←HWE.out]
     refine(H1.out _).mono ?_
     rintro e w1 ⟨rfl,rfl⟩
     have cj0:=HJ0.out.c0
     have cj1:=HJ0.out.c1
     have cj2:=HJ0.out.c2
     have fj0:=HJ0.out.fz 0
     have fj1:=HJ0.out.fz 1
     have fj2:=HJ0.out.fz 2
     go_wp2_with fail
     refine(H2.out _).mono ?_
     rintro e w2 ⟨rfl,hb2⟩
     have J2:=Lib.hid (HJ0.out.ext hb2)
     have R2:=Lib.hid (HR0.out.ext hb2)
     have X2:=Lib.hid (HX0.out.trans (hb2.mono HX0.out.size))
     clear hb2
     clear cj0 cj1 cj2 fj0 fj1 fj2
     have cj0:=J2.out.c0
     have cj1:=J2.out.c1
     have cj2:=J2.out.c2
     have fj0:=J2.out.fz 0
     have fj1:=J2.out.fz 1
     have fj2:=J2.out.fz 2
     go_wp2_with fail
     refine(H3.out _).mono ?_
     rintro e w3 ⟨rfl,rfl⟩
     have J3:=Lib.hid (J2.out.set1 L)
     have R3:=Lib.hid (R2.out.oth (w.heap.size+1) 1 (by omega) (.string L))
     have X3:=Lib.hid ((X2.out.setCell (p:=⟨w.heap.size+1,1,none⟩) (by first|exact Nat.le_refl _|exact Nat.le_succ _) (.string L)))
     have g0:=J3.out.c0
     have g1:=J3.out.c1
     have g2:=J3.out.c2
     go_wp2_with fail
     refine(H4.out _).mono ?_
     rintro e w4 ⟨rfl,hb4⟩
     have J4:=Lib.hid (J3.out.ext hb4)
     have R4:=Lib.hid (R3.out.ext hb4)
     have X4:=Lib.hid (X3.out.trans (hb4.mono X3.out.size))
     clear hb4 g0 g1 g2
     clear cj0 cj1 cj2 fj0 fj1 fj2
     have cj0:=J4.out.c0
     have cj1:=J4.out.c1
     have cj2:=J4.out.c2
     have fj0:=J4.out.fz 0
     have fj1:=J4.out.fz 1
     have fj2:=J4.out.fz 2
     go_wp2_with fail
     refine(H5.out _).mono ?_
     rintro e w5 ⟨rfl,hb5⟩
     have J5:=Lib.hid (J4.out.ext hb5)
     have R5:=Lib.hid (R4.out.ext hb5)
     have X5:=Lib.hid (X4.out.trans (hb5.mono X4.out.size))
     clear hb5
     clear cj0 cj1 cj2 fj0 fj1 fj2
     have cj0:=J5.out.c0
     have cj1:=J5.out.c1
     have cj2:=J5.out.c2
     have fj0:=J5.out.fz 0
     have fj1:=J5.out.fz 1
     have fj2:=J5.out.fz 2
     have cr0:=R5.out.c0
     have cr1:=R5.out.c1
     have cr2:=R5.out.c2
     have fr0:=R5.out.fz 0
     have fr1:=R5.out.fz 1
     have fr2:=R5.out.fz 2
     go_wp2
     have JZ:=((R5.out.set0 emB).set1 emB).set2 emB
     have XZ:=(((X5.out.setCell (p:=⟨w.heap.size,0,none⟩) (by first|exact Nat.le_refl _|exact Nat.le_succ _) (.string ⟨#[]⟩)).setCell (p:=⟨w.heap.size,1,none⟩) (by first|exact Nat.le_refl _|exact Nat.le_succ _) (.string ⟨#[]⟩)).setCell (p:=⟨w.heap.size,2,none⟩) (by first|exact Nat.le_refl _|exact Nat.le_succ _) (.string ⟨#[]⟩))
     obtain⟨tt,hh⟩:=JZ
     exact bodyPost_ret (v:=.tuple #[encJ emJ,.int .i64 190])
      (results_jid (fn:=Tryz.f149) (p:=2) (s:=3) (ty:=102) rfl _ _ w.heap.size _ _ _ _ rfl rfl hh Tryz.underlying102 (by kernel_rfl)) rfl ⟨by rw [HD1.out,HD2.out],XZ⟩
  | some k=>
   obtain⟨hcut2,hkl⟩:=cut_at hk
   have hh1:=sl_head L k hkl HLS.out
   have hh2:=sl_tail L k hkl HLS.out
   rw [hk] at H3
   unfold placeI at H3
   rw [hcut2] at HL HR
   dsimp only at HR
   have HLb:Box (bL=true):=⟨HL.out⟩
   have hkk:(0:Int)≤(k:Int):=by omega
   have hLs:=HLS.out
   have hk1:(k:Int)≤(L.size:Int):=by omega
   have hk2:(k:Int)+1≤(L.size:Int):=by omega
   clear hk hcut2
   generalize L.extract 0 k=q1 at *
   generalize L.extract (k+1) L.size=q2 at *
   have hj:j=⟨q1,q2,emB⟩:=by rw [HR.out,HLb.out];rfl
   subst hj
   clear HR
   generalize jidI ⟨q1,q2,emB⟩=jv at *
   generalize textJ ⟨q1,q2,emB⟩=T at *
   unfold encJ at H4 H5
   try unfold emB at H4
   try unfold emB at H5
   have HWT:Box (wt=L):=⟨by rw [HW.out,HBb.out];rfl⟩
   clear HW
   rw [HWT.out] at HLAW
   obtain⟨bad,hbad⟩:∃bad,(bL && isEmp (JidL.mk q1  q2  emB).loc || bR && isEmp (JidL.mk q1  q2  emB).res)=bad:=⟨_,rfl⟩
   rw [hbad] at HLAW HP
   have hcmp:=HLAW.out
   cases jv
   ·have HD1:Box (pj=emJ):=⟨by rw [HD.out.1,HP.out];simp⟩
    have HD2:Box (pe=190):=⟨by rw [HD.out.2,HP.out];simp⟩
    go_enter Tryz.func149,Tryz.ntmps149
    go_wp2_with fail
    rw [←HWE.out]
    refine(H1.out _).mono ?_
    rintro e w1 ⟨rfl,rfl⟩
    have cj0:=HJ0.out.c0
    have cj1:=HJ0.out.c1
    have cj2:=HJ0.out.c2
    have fj0:=HJ0.out.fz 0
    have fj1:=HJ0.out.fz 1
    have fj2:=HJ0.out.fz 2
    go_wp2_with fail
    refine(H2.out _).mono ?_
    rintro e w2 ⟨rfl,hb2⟩
    have J2:=Lib.hid (HJ0.out.ext hb2)
    have R2:=Lib.hid (HR0.out.ext hb2)
    have X2:=Lib.hid (HX0.out.trans (hb2.mono HX0.out.size))
    clear hb2
    clear cj0 cj1 cj2 fj0 fj1 fj2
    have cj0:=J2.out.c0
    have cj1:=J2.out.c1
    have cj2:=J2.out.c2
    have fj0:=J2.out.fz 0
    have fj1:=J2.out.fz 1
    have fj2:=J2.out.fz 2
    go_wp2_with fail
    refine(H3.out _).mono ?_
    rintro e w3 ⟨rfl,rfl⟩
    have J3:=Lib.hid (((J2.out.set1 L).set0 q1).set1 q2)
    have R3:=Lib.hid (((R2.out.oth (w.heap.size+1) 1 (by omega) (.string L)).oth (w.heap.size+1) 0 (by omega) (.string q1)).oth (w.heap.size+1) 1 (by omega) (.string q2))
    have X3:=Lib.hid ((((X2.out.setCell (p:=⟨w.heap.size+1,1,none⟩) (by first|exact Nat.le_refl _|exact Nat.le_succ _) (.string L)).setCell (p:=⟨w.heap.size+1,0,none⟩) (by first|exact Nat.le_refl _|exact Nat.le_succ _) (.string q1)).setCell (p:=⟨w.heap.size+1,1,none⟩) (by first|exact Nat.le_refl _|exact Nat.le_succ _) (.string q2)))
    have g0:=J3.out.c0
    have g1:=J3.out.c1
    have g2:=J3.out.c2
    go_wp2_with fail
    refine(H4.out _).mono ?_
    rintro e w4 ⟨rfl,hb4⟩
    have J4:=Lib.hid (J3.out.ext hb4)
    have R4:=Lib.hid (R3.out.ext hb4)
    have X4:=Lib.hid (X3.out.trans (hb4.mono X3.out.size))
    clear hb4 g0 g1 g2
    clear cj0 cj1 cj2 fj0 fj1 fj2
    have cj0:=J4.out.c0
    have cj1:=J4.out.c1
    have cj2:=J4.out.c2
    have fj0:=J4.out.fz 0
    have fj1:=J4.out.fz 1
    have fj2:=J4.out.fz 2
    have cr0:=R4.out.c0
    have cr1:=R4.out.c1
    have cr2:=R4.out.c2
    have fr0:=R4.out.fz 0
    have fr1:=R4.out.fz 1
    have fr2:=R4.out.fz 2
    go_wp2
    have JZ:=((R4.out.set0 emB).set1 emB).set2 emB
    have XZ:=(((X4.out.setCell (p:=⟨w.heap.size,0,none⟩) (by first|exact Nat.le_refl _|exact Nat.le_succ _) (.string ⟨#[]⟩)).setCell (p:=⟨w.heap.size,1,none⟩) (by first|exact Nat.le_refl _|exact Nat.le_succ _) (.string ⟨#[]⟩)).setCell (p:=⟨w.heap.size,2,none⟩) (by first|exact Nat.le_refl _|exact Nat.le_succ _) (.string ⟨#[]⟩))
    obtain⟨tt,hh⟩:=JZ
    exact bodyPost_ret (v:=.tuple #[encJ emJ,.int .i64 190])
     (results_jid (fn:=Tryz.f149) (p:=2) (s:=3) (ty:=102) rfl _ _ w.heap.size _ _ _ _ rfl rfl hh Tryz.underlying102 (by kernel_rfl)) rfl ⟨by rw [HD1.out,HD2.out],XZ⟩
   ·cases bad
    all_goals
     try rw [Bool.not_false] at hcmp
     try rw [Bool.not_true] at hcmp
     clear hbad
    ·have HD1:Box (pj=⟨q1,q2,emB⟩):=⟨by rw [HD.out.1,HP.out];rfl⟩
     have HD2:Box (pe=0):=⟨by rw [HD.out.2,HP.out];rfl⟩
     go_enter Tryz.func149,Tryz.ntmps149
     go_wp2_with fail
     rw [←HWE.out]
     refine(H1.out _).mono ?_
     rintro e w1 ⟨rfl,rfl⟩
     have cj0:=HJ0.out.c0
     have cj1:=HJ0.out.c1
     have cj2:=HJ0.out.c2
     have fj0:=HJ0.out.fz 0
     have fj1:=HJ0.out.fz 1
     have fj2:=HJ0.out.fz 2
     go_wp2_with fail
     refine(H2.out _).mono ?_
     rintro e w2 ⟨rfl,hb2⟩
     have J2:=Lib.hid (HJ0.out.ext hb2)
     have R2:=Lib.hid (HR0.out.ext hb2)
     have X2:=Lib.hid (HX0.out.trans (hb2.mono HX0.out.size))
     clear hb2
     clear cj0 cj1 cj2 fj0 fj1 fj2
     have cj0:=J2.out.c0
     have cj1:=J2.out.c1
     have cj2:=J2.out.c2
     have fj0:=J2.out.fz 0
     have fj1:=J2.out.fz 1
     have fj2:=J2.out.fz 2
     go_wp2_with fail
     refine(H3.out _).mono ?_
     rintro e w3 ⟨rfl,rfl⟩
     have J3:=Lib.hid (((J2.out.set1 L).set0 q1).set1 q2)
     have R3:=Lib.hid (((R2.out.oth (w.heap.size+1) 1 (by omega) (.string L)).oth (w.heap.size+1) 0 (by omega) (.string q1)).oth (w.heap.size+1) 1 (by omega) (.string q2))
     have X3:=Lib.hid ((((X2.out.setCell (p:=⟨w.heap.size+1,1,none⟩) (by first|exact Nat.le_refl _|exact Nat.le_succ _) (.string L)).setCell (p:=⟨w.heap.size+1,0,none⟩) (by first|exact Nat.le_refl _|exact Nat.le_succ _) (.string q1)).setCell (p:=⟨w.heap.size+1,1,none⟩) (by first|exact Nat.le_refl _|exact Nat.le_succ _) (.string q2)))
     have g0:=J3.out.c0
     have g1:=J3.out.c1
     have g2:=J3.out.c2
     go_wp2_with fail
     refine(H4.out _).mono ?_
     rintro e w4 ⟨rfl,hb4⟩
     have J4:=Lib.hid (J3.out.ext hb4)
     have R4:=Lib.hid (R3.out.ext hb4)
     have X4:=Lib.hid (X3.out.trans (hb4.mono X3.out.size))
     clear hb4 g0 g1 g2
     clear cj0 cj1 cj2 fj0 fj1 fj2
     have cj0:=J4.out.c0
     have cj1:=J4.out.c1
     have cj2:=J4.out.c2
     have fj0:=J4.out.fz 0
     have fj1:=J4.out.fz 1
     have fj2:=J4.out.fz 2
     go_wp2_with fail
     refine(H5.out _).mono ?_
     rintro e w5 ⟨rfl,hb5⟩
     have J5:=Lib.hid (J4.out.ext hb5)
     have R5:=Lib.hid (R4.out.ext hb5)
     have X5:=Lib.hid (X4.out.trans (hb5.mono X4.out.size))
     clear hb5
     clear cj0 cj1 cj2 fj0 fj1 fj2
     have cj0:=J5.out.c0
     have cj1:=J5.out.c1
     have cj2:=J5.out.c2
     have fj0:=J5.out.fz 0
     have fj1:=J5.out.fz 1
     have fj2:=J5.out.fz 2
     have cr0:=R5.out.c0
     have cr1:=R5.out.c1
     have cr2:=R5.out.c2
     have fr0:=R5.out.fz 0
     have fr1:=R5.out.fz 1
     have fr2:=R5.out.fz 2
     go_wp2
     have JZ:=((R5.out.set0 q1).set1 q2).set2 emB
     have XZ:=(((X5.out.setCell (p:=⟨w.heap.size,0,none⟩) (by first|exact Nat.le_refl _|exact Nat.le_succ _) (.string q1)).setCell (p:=⟨w.heap.size,1,none⟩) (by first|exact Nat.le_refl _|exact Nat.le_succ _) (.string q2)).setCell (p:=⟨w.heap.size,2,none⟩) (by first|exact Nat.le_refl _|exact Nat.le_succ _) (.string ⟨#[]⟩))
     obtain⟨tt,hh⟩:=JZ
     exact bodyPost_ret (v:=.tuple #[encJ ⟨q1,q2,emB⟩,.int .i64 0])
      (results_jid (fn:=Tryz.f149) (p:=2) (s:=3) (ty:=102) rfl _ _ w.heap.size _ _ _ _ rfl rfl hh Tryz.underlying102 (by kernel_rfl)) rfl ⟨by rw [HD1.out,HD2.out],XZ⟩
    ·have HD1:Box (pj=emJ):=⟨by rw [HD.out.1,HP.out];simp⟩
     have HD2:Box (pe=190):=⟨by rw [HD.out.2,HP.out];simp⟩
     go_enter Tryz.func149,Tryz.ntmps149
     go_wp2_with fail
     rw [←HWE.out]
     refine(H1.out _).mono ?_
     rintro e w1 ⟨rfl,rfl⟩
     have cj0:=HJ0.out.c0
     have cj1:=HJ0.out.c1
     have cj2:=HJ0.out.c2
     have fj0:=HJ0.out.fz 0
     have fj1:=HJ0.out.fz 1
     have fj2:=HJ0.out.fz 2
     go_wp2_with fail
     refine(H2.out _).mono ?_
     rintro e w2 ⟨rfl,hb2⟩
     have J2:=Lib.hid (HJ0.out.ext hb2)
     have R2:=Lib.hid (HR0.out.ext hb2)
     have X2:=Lib.hid (HX0.out.trans (hb2.mono HX0.out.size))
     clear hb2
     clear cj0 cj1 cj2 fj0 fj1 fj2
     have cj0:=J2.out.c0
     have cj1:=J2.out.c1
     have cj2:=J2.out.c2
     have fj0:=J2.out.fz 0
     have fj1:=J2.out.fz 1
     have fj2:=J2.out.fz 2
     go_wp2_with fail
     refine(H3.out _).mono ?_
     rintro e w3 ⟨rfl,rfl⟩
     have J3:=Lib.hid (((J2.out.set1 L).set0 q1).set1 q2)
     have R3:=Lib.hid (((R2.out.oth (w.heap.size+1) 1 (by omega) (.string L)).oth (w.heap.size+1) 0 (by omega) (.string q1)).oth (w.heap.size+1) 1 (by omega) (.string q2))
     have X3:=Lib.hid ((((X2.out.setCell (p:=⟨w.heap.size+1,1,none⟩) (by first|exact Nat.le_refl _|exact Nat.le_succ _) (.string L)).setCell (p:=⟨w.heap.size+1,0,none⟩) (by first|exact Nat.le_refl _|exact Nat.le_succ _) (.string q1)).setCell (p:=⟨w.heap.size+1,1,none⟩) (by first|exact Nat.le_refl _|exact Nat.le_succ _) (.string q2)))
     have g0:=J3.out.c0
     have g1:=J3.out.c1
     have g2:=J3.out.c2
     go_wp2_with fail
     refine(H4.out _).mono ?_
     rintro e w4 ⟨rfl,hb4⟩
     have J4:=Lib.hid (J3.out.ext hb4)
     have R4:=Lib.hid (R3.out.ext hb4)
     have X4:=Lib.hid (X3.out.trans (hb4.mono X3.out.size))
     clear hb4 g0 g1 g2
     clear cj0 cj1 cj2 fj0 fj1 fj2
     have cj0:=J4.out.c0
     have cj1:=J4.out.c1
     have cj2:=J4.out.c2
     have fj0:=J4.out.fz 0
     have fj1:=J4.out.fz 1
     have fj2:=J4.out.fz 2
     go_wp2_with fail
     refine(H5.out _).mono ?_
     rintro e w5 ⟨rfl,hb5⟩
     have J5:=Lib.hid (J4.out.ext hb5)
     have R5:=Lib.hid (R4.out.ext hb5)
     have X5:=Lib.hid (X4.out.trans (hb5.mono X4.out.size))
     clear hb5
     clear cj0 cj1 cj2 fj0 fj1 fj2
     have cj0:=J5.out.c0
     have cj1:=J5.out.c1
     have cj2:=J5.out.c2
     have fj0:=J5.out.fz 0
     have fj1:=J5.out.fz 1
     have fj2:=J5.out.fz 2
     have cr0:=R5.out.c0
     have cr1:=R5.out.c1
     have cr2:=R5.out.c2
     have fr0:=R5.out.fz 0
     have fr1:=R5.out.fz 1
     have fr2:=R5.out.fz 2
     go_wp2
     have JZ:=((R5.out.set0 emB).set1 emB).set2 emB
     have XZ:=(((X5.out.setCell (p:=⟨w.heap.size,0,none⟩) (by first|exact Nat.le_refl _|exact Nat.le_succ _) (.string ⟨#[]⟩)).setCell (p:=⟨w.heap.size,1,none⟩) (by first|exact Nat.le_refl _|exact Nat.le_succ _) (.string ⟨#[]⟩)).setCell (p:=⟨w.heap.size,2,none⟩) (by first|exact Nat.le_refl _|exact Nat.le_succ _) (.string ⟨#[]⟩))
     obtain⟨tt,hh⟩:=JZ
     exact bodyPost_ret (v:=.tuple #[encJ emJ,.int .i64 190])
      (results_jid (fn:=Tryz.f149) (p:=2) (s:=3) (ty:=102) rfl _ _ w.heap.size _ _ _ _ rfl rfl hh Tryz.underlying102 (by kernel_rfl)) rfl ⟨by rw [HD1.out,HD2.out],XZ⟩
 | some i=>
  obtain⟨hcut,hil⟩:=cut_at hn
  have hs1:=sl_head s i hil hs
  have hs2:=sl_tail s i hil hs
  rw [hn] at H1
  unfold placeI at H1
  rw [hcut] at HB HR H2 H3 HW HLS HPS HL
  dsimp only at HR HW H2 H3 HLS HPS HL
  have HBb:Box (bR=true):=⟨HB.out⟩
  have hii:(0:Int)≤(i:Int):=by omega
  have hi1:(i:Int)≤(s.size:Int):=by omega
  have hi2:(i:Int)+1≤(s.size:Int):=by omega
  have hps:=HPS.out
  clear hn hcut
  generalize s.extract 0 i=p1 at *
  generalize s.extract (i+1) s.size=p2 at *
  generalize lowI p1=L at *
  cases hk:fstL (numsOf L) 64 with
  | none=>
   have hcut2:=cut_none hk
   rw [hk] at H3
   unfold placeI at H3
   rw [hcut2] at HL HR
   have HLb:Box (bL=false):=⟨HL.out⟩
   clear hk hcut2
   have hLs:=HLS.out
   have hj:j=⟨emB,L,p2⟩:=by rw [HR.out,HLb.out];rfl
   subst hj
   clear HR
   generalize jidI ⟨emB,L,p2⟩=jv at *
   generalize textJ ⟨emB,L,p2⟩=T at *
   unfold encJ at H4 H5
   try unfold emB at H4
   try unfold emB at H5
   have HWT:Box (wt=L++(⟨#[47]⟩:ByteArray)++p2):=⟨by rw [HW.out,HBb.out];rfl⟩
   clear HW
   rw [HWT.out] at HLAW
   obtain⟨bad,hbad⟩:∃bad,(bL && isEmp (JidL.mk emB  L  p2).loc || bR && isEmp (JidL.mk emB  L  p2).res)=bad:=⟨_,rfl⟩
   rw [hbad] at HLAW HP
   have hcmp:=HLAW.out
   cases jv
   ·have HD1:Box (pj=emJ):=⟨by rw [HD.out.1,HP.out];simp⟩
    have HD2:Box (pe=190):=⟨by rw [HD.out.2,HP.out];simp⟩
    go_enter Tryz.func149,Tryz.ntmps149
    go_wp2_with fail
    rw [←HWE.out]
    refine(H1.out _).mono ?_
    rintro e w1 ⟨rfl,rfl⟩
    have cj0:=HJ0.out.c0
    have cj1:=HJ0.out.c1
    have cj2:=HJ0.out.c2
    have fj0:=HJ0.out.fz 0
    have fj1:=HJ0.out.fz 1
    have fj2:=HJ0.out.fz 2
    go_wp2_with fail
    refine(H2.out _).mono ?_
    rintro e w2 ⟨rfl,hb2⟩
    have J2:=Lib.hid ((HJ0.out.set2 p2).ext hb2)
    have R2:=Lib.hid ((HR0.out.oth (w.heap.size+1) 2 (by omega) (.string p2)).ext hb2)
    have X2:=Lib.hid (((HX0.out.setCell (p:=⟨w.heap.size+1,2,none⟩) (by first|exact Nat.le_refl _|exact Nat.le_succ _) (.string p2))).trans (hb2.mono (by have:=HX0.out.size;simp [World.setCell];omega)))
    clear hb2
    clear cj0 cj1 cj2 fj0 fj1 fj2
    have cj0:=J2.out.c0
    have cj1:=J2.out.c1
    have cj2:=J2.out.c2
    have fj0:=J2.out.fz 0
    have fj1:=J2.out.fz 1
    have fj2:=J2.out.fz 2
    go_wp2_with fail
    refine(H3.out _).mono ?_
    rintro e w3 ⟨rfl,rfl⟩
    have J3:=Lib.hid (J2.out.set1 L)
    have R3:=Lib.hid (R2.out.oth (w.heap.size+1) 1 (by omega) (.string L))
    have X3:=Lib.hid ((X2.out.setCell (p:=⟨w.heap.size+1,1,none⟩) (by first|exact Nat.le_refl _|exact Nat.le_succ _) (.string L)))
    have g0:=J3.out.c0
    have g1:=J3.out.c1
    have g2:=J3.out.c2
    go_wp2_with fail
    refine(H4.out _).mono ?_
    rintro e w4 ⟨rfl,hb4⟩
    have J4:=Lib.hid (J3.out.ext hb4)
    have R4:=Lib.hid (R3.out.ext hb4)
    have X4:=Lib.hid (X3.out.trans (hb4.mono X3.out.size))
    clear hb4 g0 g1 g2
    clear cj0 cj1 cj2 fj0 fj1 fj2
    have cj0:=J4.out.c0
    have cj1:=J4.out.c1
    have cj2:=J4.out.c2
    have fj0:=J4.out.fz 0
    have fj1:=J4.out.fz 1
    have fj2:=J4.out.fz 2
    have cr0:=R4.out.c0
    have cr1:=R4.out.c1
    have cr2:=R4.out.c2
    have fr0:=R4.out.fz 0
    have fr1:=R4.out.fz 1
    have fr2:=R4.out.fz 2
    go_wp2
    have JZ:=((R4.out.set0 emB).set1 emB).set2 emB
    have XZ:=(((X4.out.setCell (p:=⟨w.heap.size,0,none⟩) (by first|exact Nat.le_refl _|exact Nat.le_succ _) (.string ⟨#[]⟩)).setCell (p:=⟨w.heap.size,1,none⟩) (by first|exact Nat.le_refl _|exact Nat.le_succ _) (.string ⟨#[]⟩)).setCell (p:=⟨w.heap.size,2,none⟩) (by first|exact Nat.le_refl _|exact Nat.le_succ _) (.string ⟨#[]⟩))
    obtain⟨tt,hh⟩:=JZ
    exact bodyPost_ret (v:=.tuple #[encJ emJ,.int .i64 190])
     (results_jid (fn:=Tryz.f149) (p:=2) (s:=3) (ty:=102) rfl _ _ w.heap.size _ _ _ _ rfl rfl hh Tryz.underlying102 (by kernel_rfl)) rfl ⟨by rw [HD1.out,HD2.out],XZ⟩
   ·cases bad
    all_goals
     try rw [Bool.not_false] at hcmp
     try rw [Bool.not_true] at hcmp
     clear hbad
    ·have HD1:Box (pj=⟨emB,L,p2⟩):=⟨by rw [HD.out.1,HP.out];rfl⟩
     have HD2:Box (pe=0):=⟨by rw [HD.out.2,HP.out];rfl⟩
     go_enter Tryz.func149,Tryz.ntmps149
     go_wp2_with fail
     rw [←HWE.out]
     refine(H1.out _).mono ?_
     rintro e w1 ⟨rfl,rfl⟩
     have cj0:=HJ0.out.c0
     have cj1:=HJ0.out.c1
     have cj2:=HJ0.out.c2
     have fj0:=HJ0.out.fz 0
     have fj1:=HJ0.out.fz 1
     have fj2:=HJ0.out.fz 2
     go_wp2_with fail
     refine(H2.out _).mono ?_
     rintro e w2 ⟨rfl,hb2⟩
     have J2:=Lib.hid ((HJ0.out.set2 p2).ext hb2)
     have R2:=Lib.hid ((HR0.out.oth (w.heap.size+1) 2 (by omega) (.string p2)).ext hb2)
     have X2:=Lib.hid (((HX0.out.setCell (p:=⟨w.heap.size+1,2,none⟩) (by first|exact Nat.le_refl _|exact Nat.le_succ _) (.string p2))).trans (hb2.mono (by have:=HX0.out.size;simp [World.setCell];omega)))
     clear hb2
     clear cj0 cj1 cj2 fj0 fj1 fj2
     have cj0:=J2.out.c0
     have cj1:=J2.out.c1
     have cj2:=J2.out.c2
     have fj0:=J2.out.fz 0
     have fj1:=J2.out.fz 1
     have fj2:=J2.out.fz 2
     go_wp2_with fail
     refine(H3.out _).mono ?_
     rintro e w3 ⟨rfl,rfl⟩
     have J3:=Lib.hid (J2.out.set1 L)
     have R3:=Lib.hid (R2.out.oth (w.heap.size+1) 1 (by omega) (.string L))
     have X3:=Lib.hid ((X2.out.setCell (p:=⟨w.heap.size+1,1,none⟩) (by first|exact Nat.le_refl _|exact Nat.le_succ _) (.string L)))
     have g0:=J3.out.c0
     have g1:=J3.out.c1
     have g2:=J3.out.c2
     go_wp2_with fail
     refine(H4.out _).mono ?_
     rintro e w4 ⟨rfl,hb4⟩
     have J4:=Lib.hid (J3.out.ext hb4)
     have R4:=Lib.hid (R3.out.ext hb4)
     have X4:=Lib.hid (X3.out.trans (hb4.mono X3.out.size))
     clear hb4 g0 g1 g2
     clear cj0 cj1 cj2 fj0 fj1 fj2
     have cj0:=J4.out.c0
     have cj1:=J4.out.c1
     have cj2:=J4.out.c2
     have fj0:=J4.out.fz 0
     have fj1:=J4.out.fz 1
     have fj2:=J4.out.fz 2
     go_wp2_with fail
     refine(H5.out _).mono ?_
     rintro e w5 ⟨rfl,hb5⟩
     have J5:=Lib.hid (J4.out.ext hb5)
     have R5:=Lib.hid (R4.out.ext hb5)
     have X5:=Lib.hid (X4.out.trans (hb5.mono X4.out.size))
     clear hb5
     clear cj0 cj1 cj2 fj0 fj1 fj2
     have cj0:=J5.out.c0
     have cj1:=J5.out.c1
     have cj2:=J5.out.c2
     have fj0:=J5.out.fz 0
     have fj1:=J5.out.fz 1
     have fj2:=J5.out.fz 2
     have cr0:=R5.out.c0
     have cr1:=R5.out.c1
     have cr2:=R5.out.c2
     have fr0:=R5.out.fz 0
     have fr1:=R5.out.fz 1
     have fr2:=R5.out.fz 2
     go_wp2
     have JZ:=((R5.out.set0 emB).set1 L).set2 p2
     have XZ:=(((X5.out.setCell (p:=⟨w.heap.size,0,none⟩) (by first|exact Nat.le_refl _|exact Nat.le_succ _) (.string ⟨#[]⟩)).setCell (p:=⟨w.heap.size,1,none⟩) (by first|exact Nat.le_refl _|exact Nat.le_succ _) (.string L)).setCell (p:=⟨w.heap.size,2,none⟩) (by first|exact Nat.le_refl _|exact Nat.le_succ _) (.string p2))
     obtain⟨tt,hh⟩:=JZ
     exact bodyPost_ret (v:=.tuple #[encJ ⟨emB,L,p2⟩,.int .i64 0])
      (results_jid (fn:=Tryz.f149) (p:=2) (s:=3) (ty:=102) rfl _ _ w.heap.size _ _ _ _ rfl rfl hh Tryz.underlying102 (by kernel_rfl)) rfl ⟨by rw [HD1.out,HD2.out],XZ⟩
    ·have HD1:Box (pj=emJ):=⟨by rw [HD.out.1,HP.out];simp⟩
     have HD2:Box (pe=190):=⟨by rw [HD.out.2,HP.out];simp⟩
     go_enter Tryz.func149,Tryz.ntmps149
     go_wp2_with fail
     rw [←HWE.out]
     refine(H1.out _).mono ?_
     rintro e w1 ⟨rfl,rfl⟩
     have cj0:=HJ0.out.c0
     have cj1:=HJ0.out.c1
     have cj2:=HJ0.out.c2
     have fj0:=HJ0.out.fz 0
     have fj1:=HJ0.out.fz 1
     have fj2:=HJ0.out.fz 2
     go_wp2_with fail
     refine(H2.out _).mono ?_
     rintro e w2 ⟨rfl,hb2⟩
     have J2:=Lib.hid ((HJ0.out.set2 p2).ext hb2)
     have R2:=Lib.hid ((HR0.out.oth (w.heap.size+1) 2 (by omega) (.string p2)).ext hb2)
     have X2:=Lib.hid (((HX0.out.setCell (p:=⟨w.heap.size+1,2,none⟩) (by first|exact Nat.le_refl _|exact Nat.le_succ _) (.string p2))).trans (hb2.mono (by have:=HX0.out.size;simp [World.setCell];omega)))
     clear hb2
     clear cj0 cj1 cj2 fj0 fj1 fj2
     have cj0:=J2.out.c0
     have cj1:=J2.out.c1
     have cj2:=J2.out.c2
     have fj0:=J2.out.fz 0
     have fj1:=J2.out.fz 1
     have fj2:=J2.out.fz 2
     go_wp2_with fail
     refine(H3.out _).mono ?_
     rintro e w3 ⟨rfl,rfl⟩
     have J3:=Lib.hid (J2.out.set1 L)
     have R3:=Lib.hid (R2.out.oth (w.heap.size+1) 1 (by omega) (.string L))
     have X3:=Lib.hid ((X2.out.setCell (p:=⟨w.heap.size+1,1,none⟩) (by first|exact Nat.le_refl _|exact Nat.le_succ _) (.string L)))
     have g0:=J3.out.c0
     have g1:=J3.out.c1
     have g2:=J3.out.c2
     go_wp2_with fail
     refine(H4.out _).mono ?_
     rintro e w4 ⟨rfl,hb4⟩
     have J4:=Lib.hid (J3.out.ext hb4)
     have R4:=Lib.hid (R3.out.ext hb4)
     have X4:=Lib.hid (X3.out.trans (hb4.mono X3.out.size))
     clear hb4 g0 g1 g2
     clear cj0 cj1 cj2 fj0 fj1 fj2
     have cj0:=J4.out.c0
     have cj1:=J4.out.c1
     have cj2:=J4.out.c2
     have fj0:=J4.out.fz 0
     have fj1:=J4.out.fz 1
     have fj2:=J4.out.fz 2
     go_wp2_with fail
     refine(H5.out _).mono ?_
     rintro e w5 ⟨rfl,hb5⟩
     have J5:=Lib.hid (J4.out.ext hb5)
     have R5:=Lib.hid (R4.out.ext hb5)
     have X5:=Lib.hid (X4.out.trans (hb5.mono X4.out.size))
     clear hb5
     clear cj0 cj1 cj2 fj0 fj1 fj2
     have cj0:=J5.out.c0
     have cj1:=J5.out.c1
     have cj2:=J5.out.c2
     have fj0:=J5.out.fz 0
     have fj1:=J5.out.fz 1
     have fj2:=J5.out.fz 2
     have cr0:=R5.out.c0
     have cr1:=R5.out.c1
     have cr2:=R5.out.c2
     have fr0:=R5.out.fz 0
     have fr1:=R5.out.fz 1
     have fr2:=R5.out.fz 2
     go_wp2
     have JZ:=((R5.out.set0 emB).set1 emB).set2 emB
     have XZ:=(((X5.out.setCell (p:=⟨w.heap.size,0,none⟩) (by first|exact Nat.le_refl _|exact Nat.le_succ _) (.string ⟨#[]⟩)).setCell (p:=⟨w.heap.size,1,none⟩) (by first|exact Nat.le_refl _|exact Nat.le_succ _) (.string ⟨#[]⟩)).setCell (p:=⟨w.heap.size,2,none⟩) (by first|exact Nat.le_refl _|exact Nat.le_succ _) (.string ⟨#[]⟩))
     obtain⟨tt,hh⟩:=JZ
     exact bodyPost_ret (v:=.tuple #[encJ emJ,.int .i64 190])
      (results_jid (fn:=Tryz.f149) (p:=2) (s:=3) (ty:=102) rfl _ _ w.heap.size _ _ _ _ rfl rfl hh Tryz.underlying102 (by kernel_rfl)) rfl ⟨by rw [HD1.out,HD2.out],XZ⟩
  | some k=>
   obtain⟨hcut2,hkl⟩:=cut_at hk
   have hh1:=sl_head L k hkl HLS.out
   have hh2:=sl_tail L k hkl HLS.out
   rw [hk] at H3
   unfold placeI at H3
   rw [hcut2] at HL HR
   dsimp only at HR
   have HLb:Box (bL=true):=⟨HL.out⟩
   have hkk:(0:Int)≤(k:Int):=by omega
   have hLs:=HLS.out
   have hk1:(k:Int)≤(L.size:Int):=by omega
   have hk2:(k:Int)+1≤(L.size:Int):=by omega
   clear hk hcut2
   generalize L.extract 0 k=q1 at *
   generalize L.extract (k+1) L.size=q2 at *
   have hj:j=⟨q1,q2,p2⟩:=by rw [HR.out,HLb.out];rfl
   subst hj
   clear HR
   generalize jidI ⟨q1,q2,p2⟩=jv at *
   generalize textJ ⟨q1,q2,p2⟩=T at *
   unfold encJ at H4 H5
   try unfold emB at H4
   try unfold emB at H5
   have HWT:Box (wt=L++(⟨#[47]⟩:ByteArray)++p2):=⟨by rw [HW.out,HBb.out];rfl⟩
   clear HW
   rw [HWT.out] at HLAW
   obtain⟨bad,hbad⟩:∃bad,(bL && isEmp (JidL.mk q1  q2  p2).loc || bR && isEmp (JidL.mk q1  q2  p2).res)=bad:=⟨_,rfl⟩
   rw [hbad] at HLAW HP
   have hcmp:=HLAW.out
   cases jv
   ·have HD1:Box (pj=emJ):=⟨by rw [HD.out.1,HP.out];simp⟩
    have HD2:Box (pe=190):=⟨by rw [HD.out.2,HP.out];simp⟩
    go_enter Tryz.func149,Tryz.ntmps149
    go_wp2_with fail
    rw [←HWE.out]
    refine(H1.out _).mono ?_
    rintro e w1 ⟨rfl,rfl⟩
    have cj0:=HJ0.out.c0
    have cj1:=HJ0.out.c1
    have cj2:=HJ0.out.c2
    have fj0:=HJ0.out.fz 0
    have fj1:=HJ0.out.fz 1
    have fj2:=HJ0.out.fz 2
    go_wp2_with fail
    refine(H2.out _).mono ?_
    rintro e w2 ⟨rfl,hb2⟩
    have J2:=Lib.hid ((HJ0.out.set2 p2).ext hb2)
    have R2:=Lib.hid ((HR0.out.oth (w.heap.size+1) 2 (by omega) (.string p2)).ext hb2)
    have X2:=Lib.hid (((HX0.out.setCell (p:=⟨w.heap.size+1,2,none⟩) (by first|exact Nat.le_refl _|exact Nat.le_succ _) (.string p2))).trans (hb2.mono (by have:=HX0.out.size;simp [World.setCell];omega)))
    clear hb2
    clear cj0 cj1 cj2 fj0 fj1 fj2
    have cj0:=J2.out.c0
    have cj1:=J2.out.c1
    have cj2:=J2.out.c2
    have fj0:=J2.out.fz 0
    have fj1:=J2.out.fz 1
    have fj2:=J2.out.fz 2
    go_wp2_with fail
    refine(H3.out _).mono ?_
    rintro e w3 ⟨rfl,rfl⟩
    have J3:=Lib.hid (((J2.out.set1 L).set0 q1).set1 q2)
    have R3:=Lib.hid (((R2.out.oth (w.heap.size+1) 1 (by omega) (.string L)).oth (w.heap.size+1) 0 (by omega) (.string q1)).oth (w.heap.size+1) 1 (by omega) (.string q2))
    have X3:=Lib.hid ((((X2.out.setCell (p:=⟨w.heap.size+1,1,none⟩) (by first|exact Nat.le_refl _|exact Nat.le_succ _) (.string L)).setCell (p:=⟨w.heap.size+1,0,none⟩) (by first|exact Nat.le_refl _|exact Nat.le_succ _) (.string q1)).setCell (p:=⟨w.heap.size+1,1,none⟩) (by first|exact Nat.le_refl _|exact Nat.le_succ _) (.string q2)))
    have g0:=J3.out.c0
    have g1:=J3.out.c1
    have g2:=J3.out.c2
    go_wp2_with fail
    refine(H4.out _).mono ?_
    rintro e w4 ⟨rfl,hb4⟩
    have J4:=Lib.hid (J3.out.ext hb4)
    have R4:=Lib.hid (R3.out.ext hb4)
    have X4:=Lib.hid (X3.out.trans (hb4.mono X3.out.size))
    clear hb4 g0 g1 g2
    clear cj0 cj1 cj2 fj0 fj1 fj2
    have cj0:=J4.out.c0
    have cj1:=J4.out.c1
    have cj2:=J4.out.c2
    have fj0:=J4.out.fz 0
    have fj1:=J4.out.fz 1
    have fj2:=J4.out.fz 2
    have cr0:=R4.out.c0
    have cr1:=R4.out.c1
    have cr2:=R4.out.c2
    have fr0:=R4.out.fz 0
    have fr1:=R4.out.fz 1
    have fr2:=R4.out.fz 2
    go_wp2
    have JZ:=((R4.out.set0 emB).set1 emB).set2 emB
    have XZ:=(((X4.out.setCell (p:=⟨w.heap.size,0,none⟩) (by first|exact Nat.le_refl _|exact Nat.le_succ _) (.string ⟨#[]⟩)).setCell (p:=⟨w.heap.size,1,none⟩) (by first|exact Nat.le_refl _|exact Nat.le_succ _) (.string ⟨#[]⟩)).setCell (p:=⟨w.heap.size,2,none⟩) (by first|exact Nat.le_refl _|exact Nat.le_succ _) (.string ⟨#[]⟩))
    obtain⟨tt,hh⟩:=JZ
    exact bodyPost_ret (v:=.tuple #[encJ emJ,.int .i64 190])
     (results_jid (fn:=Tryz.f149) (p:=2) (s:=3) (ty:=102) rfl _ _ w.heap.size _ _ _ _ rfl rfl hh Tryz.underlying102 (by kernel_rfl)) rfl ⟨by rw [HD1.out,HD2.out],XZ⟩
   ·cases bad
    all_goals
     try rw [Bool.not_false] at hcmp
     try rw [Bool.not_true] at hcmp
     clear hbad
    ·have HD1:Box (pj=⟨q1,q2,p2⟩):=⟨by rw [HD.out.1,HP.out];rfl⟩
     have HD2:Box (pe=0):=⟨by rw [HD.out.2,HP.out];rfl⟩
     go_enter Tryz.func149,Tryz.ntmps149
     go_wp2_with fail
     rw [←HWE.out]
     refine(H1.out _).mono ?_
     rintro e w1 ⟨rfl,rfl⟩
     have cj0:=HJ0.out.c0
     have cj1:=HJ0.out.c1
     have cj2:=HJ0.out.c2
     have fj0:=HJ0.out.fz 0
     have fj1:=HJ0.out.fz 1
     have fj2:=HJ0.out.fz 2
     go_wp2_with fail
     refine(H2.out _).mono ?_
     rintro e w2 ⟨rfl,hb2⟩
     have J2:=Lib.hid ((HJ0.out.set2 p2).ext hb2)
     have R2:=Lib.hid ((HR0.out.oth (w.heap.size+1) 2 (by omega) (.string p2)).ext hb2)
     have X2:=Lib.hid (((HX0.out.setCell (p:=⟨w.heap.size+1,2,none⟩) (by first|exact Nat.le_refl _|exact Nat.le_succ _) (.string p2))).trans (hb2.mono (by have:=HX0.out.size;simp [World.setCell];omega)))
     clear hb2
     clear cj0 cj1 cj2 fj0 fj1 fj2
     have cj0:=J2.out.c0
     have cj1:=J2.out.c1
     have cj2:=J2.out.c2
     have fj0:=J2.out.fz 0
     have fj1:=J2.out.fz 1
     have fj2:=J2.out.fz 2
     go_wp2_with fail
     refine(H3.out _).mono ?_
     rintro e w3 ⟨rfl,rfl⟩
     have J3:=Lib.hid (((J2.out.set1 L).set0 q1).set1 q2)
     have R3:=Lib.hid (((R2.out.oth (w.heap.size+1) 1 (by omega) (.string L)).oth (w.heap.size+1) 0 (by omega) (.string q1)).oth (w.heap.size+1) 1 (by omega) (.string q2))
     have X3:=Lib.hid ((((X2.out.setCell (p:=⟨w.heap.size+1,1,none⟩) (by first|exact Nat.le_refl _|exact Nat.le_succ _) (.string L)).setCell (p:=⟨w.heap.size+1,0,none⟩) (by first|exact Nat.le_refl _|exact Nat.le_succ _) (.string q1)).setCell (p:=⟨w.heap.size+1,1,none⟩) (by first|exact Nat.le_refl _|exact Nat.le_succ _) (.string q2)))
     have g0:=J3.out.c0
     have g1:=J3.out.c1
     have g2:=J3.out.c2
     go_wp2_with fail
     refine(H4.out _).mono ?_
     rintro e w4 ⟨rfl,hb4⟩
     have J4:=Lib.hid (J3.out.ext hb4)
     have R4:=Lib.hid (R3.out.ext hb4)
     have X4:=Lib.hid (X3.out.trans (hb4.mono X3.out.size))
     clear hb4 g0 g1 g2
     clear cj0 cj1 cj2 fj0 fj1 fj2
     have cj0:=J4.out.c0
     have cj1:=J4.out.c1
     have cj2:=J4.out.c2
     have fj0:=J4.out.fz 0
     have fj1:=J4.out.fz 1
     have fj2:=J4.out.fz 2
     go_wp2_with fail
     refine(H5.out _).mono ?_
     rintro e w5 ⟨rfl,hb5⟩
     have J5:=Lib.hid (J4.out.ext hb5)
     have R5:=Lib.hid (R4.out.ext hb5)
     have X5:=Lib.hid (X4.out.trans (hb5.mono X4.out.size))
     clear hb5
     clear cj0 cj1 cj2 fj0 fj1 fj2
     have cj0:=J5.out.c0
     have cj1:=J5.out.c1
     have cj2:=J5.out.c2
     have fj0:=J5.out.fz 0
     have fj1:=J5.out.fz 1
     have fj2:=J5.out.fz 2
     have cr0:=R5.out.c0
     have cr1:=R5.out.c1
     have cr2:=R5.out.c2
     have fr0:=R5.out.fz 0
     have fr1:=R5.out.fz 1
     have fr2:=R5.out.fz 2
     go_wp2
     have JZ:=((R5.out.set0 q1).set1 q2).set2 p2
     have XZ:=(((X5.out.setCell (p:=⟨w.heap.size,0,none⟩) (by first|exact Nat.le_refl _|exact Nat.le_succ _) (.string q1)).setCell (p:=⟨w.heap.size,1,none⟩) (by first|exact Nat.le_refl _|exact Nat.le_succ _) (.string q2)).setCell (p:=⟨w.heap.size,2,none⟩) (by first|exact Nat.le_refl _|exact Nat.le_succ _) (.string p2))
     obtain⟨tt,hh⟩:=JZ
     exact bodyPost_ret (v:=.tuple #[encJ ⟨q1,q2,p2⟩,.int .i64 0])
      (results_jid (fn:=Tryz.f149) (p:=2) (s:=3) (ty:=102) rfl _ _ w.heap.size _ _ _ _ rfl rfl hh Tryz.underlying102 (by kernel_rfl)) rfl ⟨by rw [HD1.out,HD2.out],XZ⟩
    ·have HD1:Box (pj=emJ):=⟨by rw [HD.out.1,HP.out];simp⟩
     have HD2:Box (pe=190):=⟨by rw [HD.out.2,HP.out];simp⟩
     go_enter Tryz.func149,Tryz.ntmps149
     go_wp2_with fail
     rw [←HWE.out]
     refine(H1.out _).mono ?_
     rintro e w1 ⟨rfl,rfl⟩
     have cj0:=HJ0.out.c0
     have cj1:=HJ0.out.c1
     have cj2:=HJ0.out.c2
     have fj0:=HJ0.out.fz 0
     have fj1:=HJ0.out.fz 1
     have fj2:=HJ0.out.fz 2
     go_wp2_with fail
     refine(H2.out _).mono ?_
     rintro e w2 ⟨rfl,hb2⟩
     have J2:=Lib.hid ((HJ0.out.set2 p2).ext hb2)
     have R2:=Lib.hid ((HR0.out.oth (w.heap.size+1) 2 (by omega) (.string p2)).ext hb2)
     have X2:=Lib.hid (((HX0.out.setCell (p:=⟨w.heap.size+1,2,none⟩) (by first|exact Nat.le_refl _|exact Nat.le_succ _) (.string p2))).trans (hb2.mono (by have:=HX0.out.size;simp [World.setCell];omega)))
     clear hb2
     clear cj0 cj1 cj2 fj0 fj1 fj2
     have cj0:=J2.out.c0
     have cj1:=J2.out.c1
     have cj2:=J2.out.c2
     have fj0:=J2.out.fz 0
     have fj1:=J2.out.fz 1
     have fj2:=J2.out.fz 2
     go_wp2_with fail
     refine(H3.out _).mono ?_
     rintro e w3 ⟨rfl,rfl⟩
     have J3:=Lib.hid (((J2.out.set1 L).set0 q1).set1 q2)
     have R3:=Lib.hid (((R2.out.oth (w.heap.size+1) 1 (by omega) (.string L)).oth (w.heap.size+1) 0 (by omega) (.string q1)).oth (w.heap.size+1) 1 (by omega) (.string q2))
     have X3:=Lib.hid ((((X2.out.setCell (p:=⟨w.heap.size+1,1,none⟩) (by first|exact Nat.le_refl _|exact Nat.le_succ _) (.string L)).setCell (p:=⟨w.heap.size+1,0,none⟩) (by first|exact Nat.le_refl _|exact Nat.le_succ _) (.string q1)).setCell (p:=⟨w.heap.size+1,1,none⟩) (by first|exact Nat.le_refl _|exact Nat.le_succ _) (.string q2)))
     have g0:=J3.out.c0
     have g1:=J3.out.c1
     have g2:=J3.out.c2
     go_wp2_with fail
     refine(H4.out _).mono ?_
     rintro e w4 ⟨rfl,hb4⟩
     have J4:=Lib.hid (J3.out.ext hb4)
     have R4:=Lib.hid (R3.out.ext hb4)
     have X4:=Lib.hid (X3.out.trans (hb4.mono X3.out.size))
     clear hb4 g0 g1 g2
     clear cj0 cj1 cj2 fj0 fj1 fj2
     have cj0:=J4.out.c0
     have cj1:=J4.out.c1
     have cj2:=J4.out.c2
     have fj0:=J4.out.fz 0
     have fj1:=J4.out.fz 1
     have fj2:=J4.out.fz 2
     go_wp2_with fail
     refine(H5.out _).mono ?_
     rintro e w5 ⟨rfl,hb5⟩
     have J5:=Lib.hid (J4.out.ext hb5)
     have R5:=Lib.hid (R4.out.ext hb5)
     have X5:=Lib.hid (X4.out.trans (hb5.mono X4.out.size))
     clear hb5
     clear cj0 cj1 cj2 fj0 fj1 fj2
     have cj0:=J5.out.c0
     have cj1:=J5.out.c1
     have cj2:=J5.out.c2
     have fj0:=J5.out.fz 0
     have fj1:=J5.out.fz 1
     have fj2:=J5.out.fz 2
     have cr0:=R5.out.c0
     have cr1:=R5.out.c1
     have cr2:=R5.out.c2
     have fr0:=R5.out.fz 0
     have fr1:=R5.out.fz 1
     have fr2:=R5.out.fz 2
     go_wp2
     have JZ:=((R5.out.set0 emB).set1 emB).set2 emB
     have XZ:=(((X5.out.setCell (p:=⟨w.heap.size,0,none⟩) (by first|exact Nat.le_refl _|exact Nat.le_succ _) (.string ⟨#[]⟩)).setCell (p:=⟨w.heap.size,1,none⟩) (by first|exact Nat.le_refl _|exact Nat.le_succ _) (.string ⟨#[]⟩)).setCell (p:=⟨w.heap.size,2,none⟩) (by first|exact Nat.le_refl _|exact Nat.le_succ _) (.string ⟨#[]⟩))
     obtain⟨tt,hh⟩:=JZ
     exact bodyPost_ret (v:=.tuple #[encJ emJ,.int .i64 190])
      (results_jid (fn:=Tryz.f149) (p:=2) (s:=3) (ty:=102) rfl _ _ w.heap.size _ _ _ _ rfl rfl hh Tryz.underlying102 (by kernel_rfl)) rfl ⟨by rw [HD1.out,HD2.out],XZ⟩
end Go.Proofs.YtnmnpnofdgdigaaGreatDoor
end
