/- Part 28 of a proof laid in parts, one behind the other; no condition of its own. -/
import Derived.Test.YtnmnpnofdgdigaaGreatDoorZ27
import Derived.Test.YtnmnpnofdgdigaaGreatDoorZ24
import Derived.Laws.CopyOwn
import Derived.Test.YtnmnpnofdgdigaaGreatDoorZ16
set_option linter.all false
section
namespace Go.Proofs.YtnmnpnofdgdigaaGreatDoor
open Go.RowKit
set_option linter.unusedSimpArgs false
set_option linter.unusedVariables false
theorem pairs_err:pairsT [(⟨#[116,121,112,101]⟩:ByteArray),(⟨#[99,97,110,99,101,108]⟩:ByteArray)] (([(⟨#[116,121,112,101]⟩:ByteArray),(⟨#[99,97,110,99,101,108]⟩:ByteArray)]:List ByteArray).length / 2)=[⟨emB,(⟨#[116,121,112,101]⟩:ByteArray),(⟨#[99,97,110,99,101,108]⟩:ByteArray)⟩]:=by
 have h:([(⟨#[116,121,112,101]⟩:ByteArray),(⟨#[99,97,110,99,101,108]⟩:ByteArray)]:List ByteArray).length / 2=1:=by simp
 rw [h]
 rfl
theorem errH_sz (k:Int) (h0:-9223372036854775808≤k) (h1:k≤9223372036854775807):SzN 1000000000 (errH k):=by
 refine⟨⟨by show(0:Int)≤1;omega,by show(1:Int) < 256;omega⟩,by show(13:Nat)≤_;omega,by show(5:Nat)≤_;omega,⟨by show(1:Nat)≤_;omega,fun a ha=>?_⟩,by show(0:Nat)≤_;omega,h0,h1⟩
 rw [List.mem_singleton.1 ha]
 exact⟨Nat.zero_le _,by show(4:Nat)≤_;omega,by show(6:Nat)≤_;omega⟩
theorem errN_szw {word:ByteArray} (h:word.size≤1000000000):SzW [[errN word]]:=by
 refine⟨by show(1:Nat)≤_;omega,fun v hv=>?_⟩
 rw [List.mem_singleton.1 hv]
 refine⟨by show(1:Nat)≤_;omega,fun n hn=>?_⟩
 rw [List.mem_singleton.1 hn]
 exact⟨⟨by show(0:Int)≤1;omega,by show(1:Int) < 256;omega⟩,by show(35:Nat)≤_;omega,h,⟨Nat.zero_le _,fun a ha=>by cases ha⟩,Nat.zero_le _,by show(_:Int)≤0;omega,by show(0:Int)≤_;omega⟩
theorem err_load (w:World) (word:ByteArray) (A:Option Addr) (c:Nat):∃W,W=(w.alloc (.cells #[.int .u8 1,.string (⟨#[117,114,110,58,105,101,116,102,58,112,97,114,97,109,115,58,120,109,108,58,110,115,58,120,109,112,112,45,115,116,97,110,122,97,115]⟩:ByteArray),.string word,.slice A 0 c,.string ⟨#[]⟩,.int .i64 0] 36)).alloc (.cells #[.slice (some ⟨w.heap.size,0,none⟩) 1 1] 22)∧RdW W W.heap.size (some ⟨w.heap.size+1,0,none⟩) [[errN word]]∧Below w.heap.size w W:=by
 refine⟨_,rfl,?_,((Below.refl _ _).alloc (Nat.le_refl _) _).alloc (by simp) _⟩
 have h1:=al_at w ((w.alloc (.cells #[.int .u8 1,.string (⟨#[117,114,110,58,105,101,116,102,58,112,97,114,97,109,115,58,120,109,108,58,110,115,58,120,109,112,112,45,115,116,97,110,122,97,115]⟩:ByteArray),.string word,.slice A 0 c,.string ⟨#[]⟩,.int .i64 0] 36)).alloc (.cells #[.slice (some ⟨w.heap.size,0,none⟩) 1 1] 22)) _ _ rfl ((Below.refl _ _).alloc (by simp) _)
 have h2:=al_at (w.alloc (.cells #[.int .u8 1,.string (⟨#[117,114,110,58,105,101,116,102,58,112,97,114,97,109,115,58,120,109,108,58,110,115,58,120,109,112,112,45,115,116,97,110,122,97,115]⟩:ByteArray),.string word,.slice A 0 c,.string ⟨#[]⟩,.int .i64 0] 36)) ((w.alloc (.cells #[.int .u8 1,.string (⟨#[117,114,110,58,105,101,116,102,58,112,97,114,97,109,115,58,120,109,108,58,110,115,58,120,109,112,112,45,115,116,97,110,122,97,115]⟩:ByteArray),.string word,.slice A 0 c,.string ⟨#[]⟩,.int .i64 0] 36)).alloc (.cells #[.slice (some ⟨w.heap.size,0,none⟩) 1 1] 22)) _ (w.heap.size+1) (by simp) (Below.refl _ _)
 generalize ((w.alloc (.cells #[.int .u8 1,.string (⟨#[117,114,110,58,105,101,116,102,58,112,97,114,97,109,115,58,120,109,108,58,110,115,58,120,109,112,112,45,115,116,97,110,122,97,115]⟩:ByteArray),.string word,.slice A 0 c,.string ⟨#[]⟩,.int .i64 0] 36)).alloc (.cells #[.slice (some ⟨w.heap.size,0,none⟩) 1 1] 22))=W at *
 have l1:=(Array.getElem?_eq_some_iff.1 h1).1
 have l2:=(Array.getElem?_eq_some_iff.1 h2).1
 have hV:RdV W W.heap.size (some ⟨w.heap.size,0,none⟩) [errN word]:=rdv_one (n:=errN word) (A:=A) (c:=c) h1 l1 (fun h=>absurd h (by simp [errN])) (Nat.zero_le _)
 refine fun _=>⟨w.heap.size+1,0,rfl,l2,fun i v hi=>?_⟩
 cases i with
 | succ i=>simp at hi
 | zero=>
  simp only [List.getElem?_cons_zero,Option.some.injEq] at hi
  subst hi
  exact⟨some ⟨w.heap.size,0,none⟩,1,by simp [World.cell?,h2],Nat.le_refl _,hV⟩
theorem NewV.fresh {base:Nat} {w:World} {A:Option Addr} {c:Nat} {v:List NodeL} (h:NewV base w A c v):Fresh base w (fun W=>RdV W W.heap.size A v):=fun W' h1 h2=>by
 obtain⟨l,rfl,hown,hh⟩:=h
 rw [List.length_map] at hown
 have hk:=fun b (hb:base≤b) (hl:b < w.heap.size) (q:Nat)=>World.cell?_of_block (a:=⟨b,q,none⟩) (h2 b hb hl)
 refine rd_rdv ⟨by have:=(Rd.of_own hown).1;simpa using this,fun h0=>?_⟩ (fun i x hi=>⟨(hh i x hi).1,fun h0=>?_⟩)
 ·obtain⟨g,rfl,g1,g2⟩:=own_some hown (by simpa using h0)
  obtain⟨b,off,e,hb,hc⟩:=(Rd.of_own hown).2 (by simpa using h0)
  simp only [Option.some.injEq,Addr.mk.injEq,and_true] at e
  obtain⟨rfl,rfl⟩:=e
  exact⟨g,0,rfl,Nat.lt_of_lt_of_le hb h1,fun j u hu=>(hk g g1 g2 _).trans (hc j u hu)⟩
 ·obtain⟨b,off,e,b1,b2,b3,b4⟩:=(hh i x hi).2 h0
  refine⟨b,off,e,Nat.lt_of_lt_of_le b3 h1,fun j a ha=>?_⟩
  obtain⟨q0,q1,q2⟩:=b4 j a ha
  exact⟨(hk b b1 b3 _).trans q0,(hk b b1 b3 _).trans q1,(hk b b1 b3 _).trans q2⟩
theorem load_fresh {base g:Nat} {w W:World} {A:Option Addr} {c:Nat} {v:List NodeL} {t:TypeId} (h:NewV base w A c v) (hc:v.length≤c) (hg:W.heap[g]? = some (.cells #[.slice A v.length c] t (0,0))) (hb:base≤g) (hx:Below w.heap.size w W):Fresh base W (fun W=>RdW W W.heap.size (some ⟨g,0,none⟩) [v]):=fun W' h1 h2=>by
 have hl:=(Array.getElem?_eq_some_iff.1 hg).1
 have hV:=(h.fresh.ext hx) W' h1 h2
 refine fun _=>⟨g,0,rfl,Nat.lt_of_lt_of_le hl h1,fun i x hi=>?_⟩
 cases i with
 | succ i=>simp at hi
 | zero=>
  simp only [List.getElem?_cons_zero,Option.some.injEq] at hi
  subst hi
  exact⟨A,c,by simp [World.cell?,(h2 g hb hl).trans hg],hc,hV⟩
set_option maxHeartbeats 4000000 in
set_option maxRecDepth 10000 in
theorem sfail_any (s:StL) (A:Option Addr) (c:Nat) (word:ByteArray) (w:World) (hz:SzS s) (hr:RdW w w.heap.size A s.load) (hw:word.size≤1000000000) (hg:Glb w) :
  Calls Tryz.prog 15 #[encS s A c,.string word] w (FailsPost s word w):=by
 obtain⟨W0,hW0⟩:∃W0,W0=(w.alloc (.cells #[.int .u8 s.kind,.string s.typ,.string s.id,.string s.frm,.string s.to,.slice A s.load.length c] 27)).alloc (.cells #[.int .u8 0,.string ⟨#[]⟩,.string ⟨#[]⟩,.string ⟨#[]⟩,.string ⟨#[]⟩,.slice none 0 0] 27):=⟨_,rfl⟩
 have hX0:Below w.heap.size w W0:=by rw [hW0];exact((Below.refl _ _).alloc (Nat.le_refl _) _).alloc (by simp) _
 have hS0:SAt W0 w.heap.size s A c:=by rw [hW0];exact(SAt.new _ _ _ _ _).ext ((Below.refl _ _).alloc (Nat.le_refl _) _)
 have hT0:SAt W0 (w.heap.size+1) emS none 0:=by
  rw [hW0]
  have h:=SAt.new (w.alloc (.cells #[.int .u8 s.kind,.string s.typ,.string s.id,.string s.frm,.string s.to,.slice A s.load.length c] 27)) 27 emS none 0
  rw [show(w.alloc (.cells #[.int .u8 s.kind,.string s.typ,.string s.id,.string s.frm,.string s.to,.slice A s.load.length c] 27)).heap.size=w.heap.size+1 by simp] at h
  exact h
 have HM:=Lib.hid (scheck_any s A c W0 hz (RdW.ext hr hX0) (hg.below hX0))
 have HEE:Box (stnErr s=if stnI s then 0 else 8):=⟨rfl⟩
 have HMF:Box (mayF s=(!(s.typ.toList == [101,114,114,111,114]) && (!decide (s.kind=3) || !(s.typ.toList == [114,101,115,117,108,116])))):=⟨rfl⟩
 have HNM:=Lib.hid (fun W=>name_any word W hw)
 have HE2:=Lib.hid (fun W=>elem_any (⟨#[117,114,110,58,105,101,116,102,58,112,97,114,97,109,115,58,120,109,108,58,110,115,58,120,109,112,112,45,115,116,97,110,122,97,115]⟩:ByteArray) word [] none 0 W (fun h=>absurd h (by decide)) (by simp))
 rw [show pairsT [] (([]:List ByteArray).length / 2)=[] from rfl] at HE2
 unfold ElemE encN mkN emB at HE2
 dsimp only [List.length_nil] at HE2
 have HSZ:=Lib.hid hw
 have HX0:=Lib.hid hX0
 have HS:=Lib.hid hS0
 have HT:=Lib.hid hT0
 have a0:=HS.out.c0
 have a1:=HS.out.c1
 have a2:=HS.out.c2
 have a3:=HS.out.c3
 have a4:=HS.out.c4
 have a5:=HS.out.c5
 rw [hW0] at a0 a1 a2 a3 a4 a5
 have HW0:=Lib.hid hW0
 have hg1:=hT0.lt
 clear hW0 hX0 hS0 hT0 hr hz hg
 unfold encS at HM ⊢
 have HB:=Lib.hid (@fail_bad s word)
 have HN:=Lib.hid (@fail_no s word)
 have HY:=Lib.hid (@fail_yes s word)
 generalize stnErr s=se at *
 cases hst:stnI s
 all_goals
  rw [hst] at HEE
  have he:=HEE.out
  try simp only [Bool.false_eq_true,if_false] at he
  try simp only [if_true] at he
  subst he
  have HST:=Lib.hid hst
  clear hst HEE
 ·have HP:=Lib.hid (HB.out HST.out)
  go_enter Tryz.func15,Tryz.ntmps15
  go_wp2_with fail
  rw [←HW0.out]
  refine HM.out.mono ?_
  rintro e w1 ⟨rfl,hb1⟩
  have X1:=Lib.hid (HX0.out.trans (hb1.mono HX0.out.size))
  have T1:=Lib.hid (HT.out.ext hb1)
  have S1:=Lib.hid (HS.out.ext hb1)
  have hg2:=T1.out.lt
  clear hb1
  clear a0 a1 a2 a3 a4 a5
  have z0:=T1.out.c0
  have z1:=T1.out.c1
  have z2:=T1.out.c2
  have z3:=T1.out.c3
  have z4:=T1.out.c4
  have z5:=T1.out.c5
  have f0:=T1.out.fz 0
  have f1:=T1.out.fz 1
  have f2:=T1.out.fz 2
  have f3:=T1.out.fz 3
  have f4:=T1.out.fz 4
  have f5:=T1.out.fz 5
  unfold emS at z0 z1 z2 z3 z4 z5
  dsimp only at z0 z1 z2 z3 z4 z5
  go_wp2
  obtain⟨tt,hh⟩:=T1.out.put emS none 0
  exact bodyPost_ret (v:=.tuple #[encS emS none 0,.int .i64 8])
   (results_jid (fn:=Tryz.f15) (p:=4) (s:=5) (ty:=27) rfl _ _ (w.heap.size+1) _ _ _ _ rfl rfl hh Tryz.underlying27 (by kernel_rfl)) rfl
   (FailsPost.no (put6_below X1.out (Nat.le_succ _) _ _ _ _ _ _) HP.out.1 HP.out.2)
 ·cases hn:nameI word
  all_goals
   rw [hn] at HNM
   have HNN:=Lib.hid hn
   clear hn
  ·have HP:=Lib.hid (HN.out HST.out (by rw [HNN.out,Bool.and_false]))
   go_enter Tryz.func15,Tryz.ntmps15
   go_wp2_with fail
   rw [←HW0.out]
   refine HM.out.mono ?_
   rintro e w1 ⟨rfl,hb1⟩
   have X1:=Lib.hid (HX0.out.trans (hb1.mono HX0.out.size))
   have T1:=Lib.hid (HT.out.ext hb1)
   have S1:=Lib.hid (HS.out.ext hb1)
   have hg2:=T1.out.lt
   clear hb1
   clear a0 a1 a2 a3 a4 a5
   have a0:=S1.out.c0
   have a1:=S1.out.c1
   have a2:=S1.out.c2
   have a3:=S1.out.c3
   have a4:=S1.out.c4
   have a5:=S1.out.c5
   go_wp2_with fail
   refine(HNM.out _).mono ?_
   rintro e w2 ⟨rfl,rfl⟩
   have z0:=T1.out.c0
   have z1:=T1.out.c1
   have z2:=T1.out.c2
   have z3:=T1.out.c3
   have z4:=T1.out.c4
   have z5:=T1.out.c5
   have f0:=T1.out.fz 0
   have f1:=T1.out.fz 1
   have f2:=T1.out.fz 2
   have f3:=T1.out.fz 3
   have f4:=T1.out.fz 4
   have f5:=T1.out.fz 5
   unfold emS at z0 z1 z2 z3 z4 z5
   dsimp only at z0 z1 z2 z3 z4 z5
   go_wp2
   obtain⟨tt,hh⟩:=T1.out.put emS none 0
   exact bodyPost_ret (v:=.tuple #[encS emS none 0,.int .i64 2])
    (results_jid (fn:=Tryz.f15) (p:=4) (s:=5) (ty:=27) rfl _ _ (w.heap.size+1) _ _ _ _ rfl rfl hh Tryz.underlying27 (by kernel_rfl)) rfl
    (FailsPost.no (put6_below X1.out (Nat.le_succ _) _ _ _ _ _ _) HP.out.1 HP.out.2)
  ·cases h1:(s.typ.toList == [101,114,114,111,114])
   ·by_cases hk:s.kind=3
    ·have hk':(s.kind == 3)=true:=by rw [beq_iff_eq];exact hk
     cases h2:(s.typ.toList == [114,101,115,117,108,116])
     ·have HP:=Lib.hid (HY.out HST.out (by rw [HMF.out,HNN.out,h1,h2,decide_eq_true hk];rfl))
      clear hk
      go_enter Tryz.func15,Tryz.ntmps15
      go_wp2_with fail
      rw [←HW0.out]
      refine HM.out.mono ?_
      rintro e w1 ⟨rfl,hb1⟩
      have X1:=Lib.hid (HX0.out.trans (hb1.mono HX0.out.size))
      have T1:=Lib.hid (HT.out.ext hb1)
      have S1:=Lib.hid (HS.out.ext hb1)
      have hg2:=T1.out.lt
      clear hb1
      clear a0 a1 a2 a3 a4 a5
      have a0:=S1.out.c0
      have a1:=S1.out.c1
      have a2:=S1.out.c2
      have a3:=S1.out.c3
      have a4:=S1.out.c4
      have a5:=S1.out.c5
      go_wp2_with fail
      refine(HNM.out _).mono ?_
      rintro e w2 ⟨rfl,rfl⟩
      go_wp2_with fail
      obtain⟨W3,hW3⟩:∃W3,W3=w1.alloc (.cells #[.string (⟨#[116,121,112,101]⟩:ByteArray),.string (⟨#[99,97,110,99,101,108]⟩:ByteArray)] 9):=⟨_,rfl⟩
      have hX3:Below w1.heap.size w1 W3:=by rw [hW3];exact(Below.refl _ _).alloc (Nat.le_refl _) _
      have hR3:RdS W3 (some ⟨w1.heap.size,0,none⟩) [(⟨#[116,121,112,101]⟩:ByteArray),(⟨#[99,97,110,99,101,108]⟩:ByteArray)]:=by rw [hW3];exact RdS.new w1 9 [(⟨#[116,121,112,101]⟩:ByteArray),(⟨#[99,97,110,99,101,108]⟩:ByteArray)]
      have HE1:=Lib.hid (elem_any (⟨#[106,97,98,98,101,114,58,99,108,105,101,110,116]⟩:ByteArray) (⟨#[101,114,114,111,114]⟩:ByteArray) [(⟨#[116,121,112,101]⟩:ByteArray),(⟨#[99,97,110,99,101,108]⟩:ByteArray)] (some ⟨w1.heap.size,0,none⟩) 2 W3 hR3 (by simp))
      rw [show pairsT [(⟨#[116,121,112,101]⟩:ByteArray),(⟨#[99,97,110,99,101,108]⟩:ByteArray)] (([(⟨#[116,121,112,101]⟩:ByteArray),(⟨#[99,97,110,99,101,108]⟩:ByteArray)]:List ByteArray).length / 2)=[⟨emB,(⟨#[116,121,112,101]⟩:ByteArray),(⟨#[99,97,110,99,101,108]⟩:ByteArray)⟩] from pairs_err] at HE1
      unfold ElemE encN mkN emB at HE1
      dsimp only [List.length_cons,List.length_nil] at HE1
      have X3:=Lib.hid (X1.out.trans (hX3.mono X1.out.size))
      have T3:=Lib.hid (T1.out.ext hX3)
      have S3:=Lib.hid (S1.out.ext hX3)
      have HW3:=Lib.hid hW3
      clear hW3 hX3 hR3
      clear a0 a1 a2 a3 a4 a5
      rw [←HW3.out]
      refine HE1.out.mono ?_
      rintro e w4 ⟨A4,c4,rfl,hl4,hr4,hb4⟩
      have X4:=Lib.hid (X3.out.trans (hb4.mono X3.out.size))
      have T4:=Lib.hid (T3.out.ext hb4)
      have S4:=Lib.hid (S3.out.ext hb4)
      have L4:=Lib.hid hl4
      have R4:=Lib.hid hr4
      clear hl4 hr4 hb4
      go_wp2_with fail
      refine(HE2.out w4).mono ?_
      rintro e w5 ⟨A5,c5,rfl,hl5,hr5,hb5⟩
      have X5:=Lib.hid (X4.out.trans (hb5.mono X4.out.size))
      have T5:=Lib.hid (T4.out.ext hb5)
      have S5:=Lib.hid (S4.out.ext hb5)
      have R5:=Lib.hid ((R4.out.below hb5 (Nat.le_refl _)).more hb5.size)
      clear hl5 hr5 hb5
      obtain⟨W6,hW6,hR6,hX6⟩:=err_load w5 word A5 c5
      have X6:=Lib.hid (X5.out.trans (hX6.mono X5.out.size))
      have T6:=Lib.hid (T5.out.ext hX6)
      have S6:=Lib.hid (S5.out.ext hX6)
      have HPT:=Lib.hid (put_node (errH 0) A4 c4 [[errN word]] (some ⟨w5.heap.size+1,0,none⟩) 1 W6 (errH_sz 0 (by omega) (by omega)) ((R5.out.below hX6 (Nat.le_refl _)).more hX6.size) L4.out (errN_szw HSZ.out) hR6)
      unfold PutPost at HPT
      rw [(put_fail HNN.out).1,(put_fail HNN.out).2] at HPT
      unfold encN errH emB at HPT
      dsimp only [List.length_cons,List.length_nil] at HPT
      have HW6:=Lib.hid hW6
      clear hW6 hR6 hX6
      go_wp2_with fail
      rw [←HW6.out]
      refine HPT.out.mono ?_
      rintro e w7 ⟨A7,c7,rfl,hl7,hn7,hb7⟩
      have X7:=Lib.hid (X6.out.trans (hb7.mono X6.out.size))
      have T7:=Lib.hid (T6.out.ext hb7)
      have S7:=Lib.hid (S6.out.ext hb7)
      have N7:=Lib.hid ((hn7.mono X6.out.size))
      have L7:=Lib.hid hl7
      have Z7:=Lib.hid X6.out.size
      have N7b:=Lib.hid hn7
      have H67:=Lib.hid hb7.size
      clear hl7 hn7 hb7
      obtain⟨W8,hW8⟩:∃W8,W8=w7.alloc (.cells #[.slice A7 (failV word).length c7] 22):=⟨_,rfl⟩
      have hX8:Below w7.heap.size w7 W8:=by rw [hW8];exact(Below.refl _ _).alloc (Nat.le_refl _) _
      have hH8:W8.heap[w7.heap.size]? = some (.cells #[.slice A7 (failV word).length c7] 22 (0,0)):=by rw [hW8];exact heap_alloc_new w7 _
      have X8:=Lib.hid (X7.out.trans (hX8.mono X7.out.size))
      have T8:=Lib.hid (T7.out.ext hX8)
      have F8:=Lib.hid (load_fresh (base:=W6.heap.size) N7b.out L7.out hH8 H67.out hX8)
      have HW8:=Lib.hid hW8
      clear hW8 hX8 hH8
      have a0:=S7.out.c0
      have a1:=S7.out.c1
      have a2:=S7.out.c2
      have a3:=S7.out.c3
      have a4:=S7.out.c4
      have a5:=S7.out.c5
      have z0:=T8.out.c0
      have z1:=T8.out.c1
      have z2:=T8.out.c2
      have z3:=T8.out.c3
      have z4:=T8.out.c4
      have z5:=T8.out.c5
      have f0:=T8.out.fz 0
      have f1:=T8.out.fz 1
      have f2:=T8.out.fz 2
      have f3:=T8.out.fz 3
      have f4:=T8.out.fz 4
      have f5:=T8.out.fz 5
      unfold emS at z0 z1 z2 z3 z4 z5
      dsimp only at z0 z1 z2 z3 z4 z5
      rw [HW8.out] at z0 z1 z2 z3 z4 z5 f0 f1 f2 f3 f4 f5
      go_wp2
      rw [←HW8.out]
      obtain⟨tt,hh⟩:=T8.out.put (failS s word) (some ⟨w7.heap.size,0,none⟩) 1
      refine bodyPost_ret (v:=.tuple #[encS (failS s word) (some ⟨w7.heap.size,0,none⟩) 1,.int .i64 0])
       (results_jid (fn:=Tryz.f15) (p:=4) (s:=5) (ty:=27) rfl _ _ (w.heap.size+1) _ _ _ _ rfl rfl hh Tryz.underlying27 (by kernel_rfl)) rfl ?_
      exact FailsPost.yes (put6_below X8.out (Nat.le_succ _) _ _ _ _ _ _) HP.out.1 HP.out.2 (Nat.le_refl _) ((F8.out.rows (by have:=T6.out.lt;exact this) _ _ _ _ _ _).mono X6.out.size)
     ·have HP:=Lib.hid (HN.out HST.out (by rw [HMF.out,HNN.out,h1,h2,decide_eq_true hk];rfl))
      clear hk
      go_enter Tryz.func15,Tryz.ntmps15
      go_wp2_with fail
      rw [←HW0.out]
      refine HM.out.mono ?_
      rintro e w1 ⟨rfl,hb1⟩
      have X1:=Lib.hid (HX0.out.trans (hb1.mono HX0.out.size))
      have T1:=Lib.hid (HT.out.ext hb1)
      have S1:=Lib.hid (HS.out.ext hb1)
      have hg2:=T1.out.lt
      clear hb1
      clear a0 a1 a2 a3 a4 a5
      have a0:=S1.out.c0
      have a1:=S1.out.c1
      have a2:=S1.out.c2
      have a3:=S1.out.c3
      have a4:=S1.out.c4
      have a5:=S1.out.c5
      go_wp2_with fail
      refine(HNM.out _).mono ?_
      rintro e w2 ⟨rfl,rfl⟩
      have z0:=T1.out.c0
      have z1:=T1.out.c1
      have z2:=T1.out.c2
      have z3:=T1.out.c3
      have z4:=T1.out.c4
      have z5:=T1.out.c5
      have f0:=T1.out.fz 0
      have f1:=T1.out.fz 1
      have f2:=T1.out.fz 2
      have f3:=T1.out.fz 3
      have f4:=T1.out.fz 4
      have f5:=T1.out.fz 5
      unfold emS at z0 z1 z2 z3 z4 z5
      dsimp only at z0 z1 z2 z3 z4 z5
      go_wp2
      obtain⟨tt,hh⟩:=T1.out.put emS none 0
      exact bodyPost_ret (v:=.tuple #[encS emS none 0,.int .i64 2])
       (results_jid (fn:=Tryz.f15) (p:=4) (s:=5) (ty:=27) rfl _ _ (w.heap.size+1) _ _ _ _ rfl rfl hh Tryz.underlying27 (by kernel_rfl)) rfl
       (FailsPost.no (put6_below X1.out (Nat.le_succ _) _ _ _ _ _ _) HP.out.1 HP.out.2)
    ·have hk':(s.kind == 3)=false:=by rw [beq_eq_false_iff_ne];exact hk
     have HP:=Lib.hid (HY.out HST.out (by rw [HMF.out,HNN.out,h1,decide_eq_false hk];rfl))
     clear hk
     go_enter Tryz.func15,Tryz.ntmps15
     go_wp2_with fail
     rw [←HW0.out]
     refine HM.out.mono ?_
     rintro e w1 ⟨rfl,hb1⟩
     have X1:=Lib.hid (HX0.out.trans (hb1.mono HX0.out.size))
     have T1:=Lib.hid (HT.out.ext hb1)
     have S1:=Lib.hid (HS.out.ext hb1)
     have hg2:=T1.out.lt
     clear hb1
     clear a0 a1 a2 a3 a4 a5
     have a0:=S1.out.c0
     have a1:=S1.out.c1
     have a2:=S1.out.c2
     have a3:=S1.out.c3
     have a4:=S1.out.c4
     have a5:=S1.out.c5
     go_wp2_with fail
     refine(HNM.out _).mono ?_
     rintro e w2 ⟨rfl,rfl⟩
     go_wp2_with fail
     obtain⟨W3,hW3⟩:∃W3,W3=w1.alloc (.cells #[.string (⟨#[116,121,112,101]⟩:ByteArray),.string (⟨#[99,97,110,99,101,108]⟩:ByteArray)] 9):=⟨_,rfl⟩
     have hX3:Below w1.heap.size w1 W3:=by rw [hW3];exact(Below.refl _ _).alloc (Nat.le_refl _) _
     have hR3:RdS W3 (some ⟨w1.heap.size,0,none⟩) [(⟨#[116,121,112,101]⟩:ByteArray),(⟨#[99,97,110,99,101,108]⟩:ByteArray)]:=by rw [hW3];exact RdS.new w1 9 [(⟨#[116,121,112,101]⟩:ByteArray),(⟨#[99,97,110,99,101,108]⟩:ByteArray)]
     have HE1:=Lib.hid (elem_any (⟨#[106,97,98,98,101,114,58,99,108,105,101,110,116]⟩:ByteArray) (⟨#[101,114,114,111,114]⟩:ByteArray) [(⟨#[116,121,112,101]⟩:ByteArray),(⟨#[99,97,110,99,101,108]⟩:ByteArray)] (some ⟨w1.heap.size,0,none⟩) 2 W3 hR3 (by simp))
     rw [show pairsT [(⟨#[116,121,112,101]⟩:ByteArray),(⟨#[99,97,110,99,101,108]⟩:ByteArray)] (([(⟨#[116,121,112,101]⟩:ByteArray),(⟨#[99,97,110,99,101,108]⟩:ByteArray)]:List ByteArray).length / 2)=[⟨emB,(⟨#[116,121,112,101]⟩:ByteArray),(⟨#[99,97,110,99,101,108]⟩:ByteArray)⟩] from pairs_err] at HE1
     unfold ElemE encN mkN emB at HE1
     dsimp only [List.length_cons,List.length_nil] at HE1
     have X3:=Lib.hid (X1.out.trans (hX3.mono X1.out.size))
     have T3:=Lib.hid (T1.out.ext hX3)
     have S3:=Lib.hid (S1.out.ext hX3)
     have HW3:=Lib.hid hW3
     clear hW3 hX3 hR3
     clear a0 a1 a2 a3 a4 a5
     rw [←HW3.out]
     refine HE1.out.mono ?_
     rintro e w4 ⟨A4,c4,rfl,hl4,hr4,hb4⟩
     have X4:=Lib.hid (X3.out.trans (hb4.mono X3.out.size))
     have T4:=Lib.hid (T3.out.ext hb4)
     have S4:=Lib.hid (S3.out.ext hb4)
     have L4:=Lib.hid hl4
     have R4:=Lib.hid hr4
     clear hl4 hr4 hb4
     go_wp2_with fail
     refine(HE2.out w4).mono ?_
     rintro e w5 ⟨A5,c5,rfl,hl5,hr5,hb5⟩
     have X5:=Lib.hid (X4.out.trans (hb5.mono X4.out.size))
     have T5:=Lib.hid (T4.out.ext hb5)
     have S5:=Lib.hid (S4.out.ext hb5)
     have R5:=Lib.hid ((R4.out.below hb5 (Nat.le_refl _)).more hb5.size)
     clear hl5 hr5 hb5
     obtain⟨W6,hW6,hR6,hX6⟩:=err_load w5 word A5 c5
     have X6:=Lib.hid (X5.out.trans (hX6.mono X5.out.size))
     have T6:=Lib.hid (T5.out.ext hX6)
     have S6:=Lib.hid (S5.out.ext hX6)
     have HPT:=Lib.hid (put_node (errH 0) A4 c4 [[errN word]] (some ⟨w5.heap.size+1,0,none⟩) 1 W6 (errH_sz 0 (by omega) (by omega)) ((R5.out.below hX6 (Nat.le_refl _)).more hX6.size) L4.out (errN_szw HSZ.out) hR6)
     unfold PutPost at HPT
     rw [(put_fail HNN.out).1,(put_fail HNN.out).2] at HPT
     unfold encN errH emB at HPT
     dsimp only [List.length_cons,List.length_nil] at HPT
     have HW6:=Lib.hid hW6
     clear hW6 hR6 hX6
     go_wp2_with fail
     rw [←HW6.out]
     refine HPT.out.mono ?_
     rintro e w7 ⟨A7,c7,rfl,hl7,hn7,hb7⟩
     have X7:=Lib.hid (X6.out.trans (hb7.mono X6.out.size))
     have T7:=Lib.hid (T6.out.ext hb7)
     have S7:=Lib.hid (S6.out.ext hb7)
     have N7:=Lib.hid ((hn7.mono X6.out.size))
     have L7:=Lib.hid hl7
     have Z7:=Lib.hid X6.out.size
     have N7b:=Lib.hid hn7
     have H67:=Lib.hid hb7.size
     clear hl7 hn7 hb7
     obtain⟨W8,hW8⟩:∃W8,W8=w7.alloc (.cells #[.slice A7 (failV word).length c7] 22):=⟨_,rfl⟩
     have hX8:Below w7.heap.size w7 W8:=by rw [hW8];exact(Below.refl _ _).alloc (Nat.le_refl _) _
     have hH8:W8.heap[w7.heap.size]? = some (.cells #[.slice A7 (failV word).length c7] 22 (0,0)):=by rw [hW8];exact heap_alloc_new w7 _
     have X8:=Lib.hid (X7.out.trans (hX8.mono X7.out.size))
     have T8:=Lib.hid (T7.out.ext hX8)
     have F8:=Lib.hid (load_fresh (base:=W6.heap.size) N7b.out L7.out hH8 H67.out hX8)
     have HW8:=Lib.hid hW8
     clear hW8 hX8 hH8
     have a0:=S7.out.c0
     have a1:=S7.out.c1
     have a2:=S7.out.c2
     have a3:=S7.out.c3
     have a4:=S7.out.c4
     have a5:=S7.out.c5
     have z0:=T8.out.c0
     have z1:=T8.out.c1
     have z2:=T8.out.c2
     have z3:=T8.out.c3
     have z4:=T8.out.c4
     have z5:=T8.out.c5
     have f0:=T8.out.fz 0
     have f1:=T8.out.fz 1
     have f2:=T8.out.fz 2
     have f3:=T8.out.fz 3
     have f4:=T8.out.fz 4
     have f5:=T8.out.fz 5
     unfold emS at z0 z1 z2 z3 z4 z5
     dsimp only at z0 z1 z2 z3 z4 z5
     rw [HW8.out] at z0 z1 z2 z3 z4 z5 f0 f1 f2 f3 f4 f5
     go_wp2
     rw [←HW8.out]
     obtain⟨tt,hh⟩:=T8.out.put (failS s word) (some ⟨w7.heap.size,0,none⟩) 1
     refine bodyPost_ret (v:=.tuple #[encS (failS s word) (some ⟨w7.heap.size,0,none⟩) 1,.int .i64 0])
      (results_jid (fn:=Tryz.f15) (p:=4) (s:=5) (ty:=27) rfl _ _ (w.heap.size+1) _ _ _ _ rfl rfl hh Tryz.underlying27 (by kernel_rfl)) rfl ?_
     exact FailsPost.yes (put6_below X8.out (Nat.le_succ _) _ _ _ _ _ _) HP.out.1 HP.out.2 (Nat.le_refl _) ((F8.out.rows (by have:=T6.out.lt;exact this) _ _ _ _ _ _).mono X6.out.size)
   ·have HP:=Lib.hid (HN.out HST.out (by rw [HMF.out,HNN.out,h1];rfl))
    go_enter Tryz.func15,Tryz.ntmps15
    go_wp2_with fail
    rw [←HW0.out]
    refine HM.out.mono ?_
    rintro e w1 ⟨rfl,hb1⟩
    have X1:=Lib.hid (HX0.out.trans (hb1.mono HX0.out.size))
    have T1:=Lib.hid (HT.out.ext hb1)
    have S1:=Lib.hid (HS.out.ext hb1)
    have hg2:=T1.out.lt
    clear hb1
    clear a0 a1 a2 a3 a4 a5
    have a0:=S1.out.c0
    have a1:=S1.out.c1
    have a2:=S1.out.c2
    have a3:=S1.out.c3
    have a4:=S1.out.c4
    have a5:=S1.out.c5
    go_wp2_with fail
    refine(HNM.out _).mono ?_
    rintro e w2 ⟨rfl,rfl⟩
    have z0:=T1.out.c0
    have z1:=T1.out.c1
    have z2:=T1.out.c2
    have z3:=T1.out.c3
    have z4:=T1.out.c4
    have z5:=T1.out.c5
    have f0:=T1.out.fz 0
    have f1:=T1.out.fz 1
    have f2:=T1.out.fz 2
    have f3:=T1.out.fz 3
    have f4:=T1.out.fz 4
    have f5:=T1.out.fz 5
    unfold emS at z0 z1 z2 z3 z4 z5
    dsimp only at z0 z1 z2 z3 z4 z5
    go_wp2
    obtain⟨tt,hh⟩:=T1.out.put emS none 0
    exact bodyPost_ret (v:=.tuple #[encS emS none 0,.int .i64 2])
     (results_jid (fn:=Tryz.f15) (p:=4) (s:=5) (ty:=27) rfl _ _ (w.heap.size+1) _ _ _ _ rfl rfl hh Tryz.underlying27 (by kernel_rfl)) rfl
     (FailsPost.no (put6_below X1.out (Nat.le_succ _) _ _ _ _ _ _) HP.out.1 HP.out.2)
end Go.Proofs.YtnmnpnofdgdigaaGreatDoor
end
section
namespace Go.Proofs.YtnmnpnofdgdigaaGreatDoor
open Go.RowKit
set_option linter.unusedSimpArgs false
set_option linter.unusedVariables false
theorem own_at {w w':World} {base s n:Nat} {e:TypeId} {v:Value} {xs:List Value} (h:w.ownsRow base e s v n xs) (hk:∀k,base≤k→k < w.heap.size→w'.heap[k]? = w.heap[k]?):w'.ownsRow base e s v n xs:=by
 refine⟨h.1,?_⟩
 rcases h.2 with h1|⟨g,cap,cur,h1,h2,h3,h4⟩
 ·exact .inl h1
 ·exact .inr ⟨g,cap,cur,h1,h2,(hk g h2 (Array.getElem?_eq_some_iff.1 h3).1).trans h3,h4⟩
theorem NewO.at {base:Nat} {v:Value} {w w':World} {A:Option Addr} {l:List AttrL} (h:NewO base v w A l) (hs:w.heap.size≤w'.heap.size) (hk:∀k,base≤k→k < w.heap.size→w'.heap[k]? = w.heap[k]?):NewO base v w' A l:=fun h0=>by
 obtain⟨b,off,h1,h2,h3,h4,h5⟩:=h h0
 exact⟨b,off,h1,h2,h3,Nat.lt_of_lt_of_le h4 hs,fun i a hi=>by
  obtain⟨q0,q1,q2⟩:=h5 i a hi
  have hc:∀q:Nat,w'.cell? ⟨b,q,none⟩=w.cell? ⟨b,q,none⟩:=fun q=>World.cell?_of_block (hk b h2 h4)
  exact⟨(hc _).trans q0,(hc _).trans q1,(hc _).trans q2⟩⟩
theorem RowT.at {base:Nat} {u:Value} {w w':World} {ts:List TreeH} (h:RowT base u w ts) (hs:w.heap.size≤w'.heap.size) (hk:∀k,base≤k→k < w.heap.size→w'.heap[k]? = w.heap[k]?):RowT base u w' ts:=by
 refine⟨own_at h.1 hk,fun x hx=>?_⟩
 obtain⟨q1,q2,l,q3,q4,q5,q6⟩:=h.2 x hx
 exact⟨q1,q2,l,q3,own_at q4 hk,q5,fun i y hi=>⟨(q6 i y hi).1,(q6 i y hi).2.at hs hk⟩⟩
theorem RowT.mono {base base':Nat} {u:Value} {w:World} {ts:List TreeH} (h:RowT base u w ts) (hb:base'≤base):RowT base' u w ts:=by
 refine⟨own_mono h.1 hb,fun x hx=>?_⟩
 obtain⟨q1,q2,l,q3,q4,q5,q6⟩:=h.2 x hx
 exact⟨q1,q2,l,q3,own_mono q4 hb,q5,fun i y hi=>⟨(q6 i y hi).1,fun h00=>by
  obtain⟨b',off',e1,e2,e3⟩:=(q6 i y hi).2 h00
  exact⟨b',off',e1,Nat.le_trans hb e2,e3⟩⟩⟩
theorem put6_size (w:World) (g:Nat) (a b c d e f:Value):(put6 w g a b c d e f).heap.size=w.heap.size:=by simp [put6,World.setCell]
theorem RowT.put {base:Nat} {u:Value} {w:World} {ts:List TreeH} (h:RowT base u w ts) {g:Nat} (hg:g < base) (a b c d e f:Value):RowT base u (put6 w g a b c d e f) ts:=
 h.at (by rw [put6_size];exact Nat.le_refl _) (fun k hk _=>put6_other (by omega) _ _ _ _ _ _)
theorem part_szv {v:List NodeL} {M:Nat} (h:SzV M v) (k:Nat):SzV M (partI v k):=by
 unfold partI
 refine⟨?_,fun n hn=>h.2 n (List.mem_of_mem_drop (List.mem_of_mem_take hn))⟩
 have:=h.1
 simp only [List.length_take,List.length_drop]
 omega
theorem elems_szw {v:List NodeL} (hz:SzV 1000000000 v) (ht:treeI v=true):SzW (elemsI v):=by
 have hl0:=(tree_parts ht).1
 obtain⟨e0,he0,_⟩:=tree_ends ht hl0
 have h1:=(chain_start he0).lt (by have:=(tree_parts ht).2.1;omega)
 have h2:=(endN_le v 12 0 e0 he0).2
 have h3:=(tree_parts ht).2.1
 have h4:(kidsI v 0).length≤512:=by
  unfold kidsI
  rw [kidL_len]
  omega
 unfold elemsI elemsK
 refine⟨?_,fun x hx=>?_⟩
 ·rw [List.length_map]
  have:=List.length_filter_le (fun k=>decide ((nodeAt v k).kind=1)) (kidsI v 0)
  omega
 ·obtain⟨k,_,rfl⟩:=List.mem_map.1 hx
  exact part_szv hz k
end Go.Proofs.YtnmnpnofdgdigaaGreatDoor
end
section
namespace Go.Proofs.YtnmnpnofdgdigaaGreatDoor
open Go.RowKit
set_option linter.unusedSimpArgs false
set_option linter.unusedVariables false
section
variable {ops:Array Oper} {w0:World} {Fin:List Ty→Prop} {rest:List Oper} {E:Env} {Ts:List Ty} {o:Oper}
theorem tw_eqS {x y:Operand} (s t:ByteArray) (b:Bool) (hb:(s.toList == t.toList)=b) (hop:o.op=.binOp .eql 9 x y 9) (hx:evalE E x=some (.string s)) (hy:evalE E y=some (.string t)) (hw:Wd ops o E true)
  (hr:wpT Tryz.prog ops w0 Fin rest (E.put o.dst (.inl (.bool b))) (.inl (.bool b) :: Ts)):wpT Tryz.prog ops w0 Fin (o :: rest) E Ts:=
 tw_pure _ hw (fun a W hW hs=>by
  have h1:a.eval x=.string s:=evalE_of hx (by rw [hop];simp [Op.operands]) hs
  have h2:a.eval y=.string t:=evalE_of hy (by rw [hop];simp [Op.operands]) hs
  subst hb
  unfold execOp
  simp only [hop,h1,h2]
  go_simp) hr
set_option maxRecDepth 10000 in
theorem tw_ldSt {x:Operand} {g:Nat} {s:StL} {A:Option Addr} {c:Nat} (hop:o.op=.load 27 x) (hE:evalE E x=some (.pointer (some ⟨g,0,none⟩))) (hc:∀W,Ext w0 W→SAt W g s A c) (hw:Wd ops o E true)
  (hr:wpT Tryz.prog ops w0 Fin rest (E.put o.dst (.inl (encS s A c))) (.inl (encS s A c) :: Ts)):wpT Tryz.prog ops w0 Fin (o :: rest) E Ts:=
 tw_pure (encS s A c) hw (fun a W hW hs=>by
  have h1:a.eval x=.pointer (some ⟨g,0,none⟩):=evalE_of hE (by rw [hop];simp [Op.operands]) hs
  obtain⟨t,h2⟩:=hc W hW
  have h3:=run_loadVar_row (P:=Tryz.prog) W g t 27 _ (0,0) _ h2 Tryz.underlying27 rfl (by kernel_rfl)
  unfold execOp
  have h4:(Instr.sureAddr (.pointer (some ⟨g,0,none⟩))).run Tryz.prog W=.ok ⟨g,0,none⟩ W:=by first|rfl|(go_simp;done)|(simp [Instr.sureAddr,asAddr];done)
  simp only [hop,h1,Instr.loadAt,Sem.run_bind,Sem.run_pure,Result.andThen_ok,h4,h3]
  rfl) hr
end
end Go.Proofs.YtnmnpnofdgdigaaGreatDoor
end
section
namespace Go.Proofs.YtnmnpnofdgdigaaGreatDoor
open Go.RowKit
set_option linter.unusedSimpArgs false
set_option linter.unusedVariables false
end Go.Proofs.YtnmnpnofdgdigaaGreatDoor
end
