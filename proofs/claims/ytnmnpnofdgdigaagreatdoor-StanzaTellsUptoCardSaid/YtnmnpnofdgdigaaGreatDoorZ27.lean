/- Part 27 of a proof laid in parts, one behind the other; no condition of its own. -/
import Derived.Test.YtnmnpnofdgdigaaGreatDoorZ26
set_option linter.all false
section
namespace Go.Proofs.YtnmnpnofdgdigaaGreatDoor
open Go.RowKit
set_option linter.unusedSimpArgs false
set_option linter.unusedVariables false
set_option maxHeartbeats 1000000 in
set_option maxRecDepth 10000 in
theorem refmayfail_any (s:StL) (A:Option Addr) (c:Nat) (w:World) :
  Calls Tryz.prog 43 #[encS s A c] w fun e w'=>e=.returned (.bool (mayF s))∧Below w.heap.size w w':=by
 have HX:=Lib.hid ((Below.refl w.heap.size w).alloc (Nat.le_refl _) (.cells #[.int .u8 s.kind,.string s.typ,.string s.id,.string s.frm,.string s.to,.slice A s.load.length c] 27))
 have HF:Box (mayF s=(!(s.typ.toList == [101,114,114,111,114]) && (!decide (s.kind=3) || !(s.typ.toList == [114,101,115,117,108,116])))):=⟨rfl⟩
 generalize mayF s=r at *
 unfold encS
 cases h1:(s.typ.toList == [101,114,114,111,114])
 ·have h1':(s.typ.toList != [101,114,114,111,114])=true:=by rw [bne,h1];rfl
  by_cases hk:s.kind=3
  ·have hk':(s.kind != 3)=false:=by simp [hk]
   cases h2:(s.typ.toList == [114,101,115,117,108,116])
   all_goals
    have h2':(s.typ.toList != [114,101,115,117,108,116])=!(s.typ.toList == [114,101,115,117,108,116]):=rfl
    rw [h2] at h2'
    rw [h1,h2,decide_eq_true hk] at HF
    clear hk
    go_enter Tryz.func43,Tryz.ntmps43
    go_wp2
    go_ret
    exact⟨(ret_bool (by first|(rw [HF.out];done)|(rw [HF.out];simp_all;done))),HX.out⟩
  ·have hk':(s.kind != 3)=true:=by simpa using hk
   rw [h1,decide_eq_false hk] at HF
   clear hk
   go_enter Tryz.func43,Tryz.ntmps43
   go_wp2
   go_ret
   exact⟨(ret_bool (by first|(rw [HF.out];done)|(rw [HF.out];simp_all;done))),HX.out⟩
 ·have h1':(s.typ.toList != [101,114,114,111,114])=false:=by rw [bne,h1];rfl
  rw [h1] at HF
  go_enter Tryz.func43,Tryz.ntmps43
  go_wp2
  go_ret
  exact⟨(ret_bool (by first|(rw [HF.out];done)|(rw [HF.out];simp_all;done))),HX.out⟩
def Fresh (base:Nat) (w:World) (P:World→Prop):Prop:=∀W',w.heap.size≤W'.heap.size→(∀k,base≤k→k < w.heap.size→W'.heap[k]? = w.heap[k]?)→P W'
section
variable {base base' g:Nat} {w w':World} {P:World→Prop}
theorem Fresh.now (h:Fresh base w P):P w:=h w (Nat.le_refl _) (fun _ _ _=>rfl)
theorem Fresh.ext (h:Fresh base w P) (hb:Below w.heap.size w w'):Fresh base w' P:=fun W' h1 h2=>
 h W' (Nat.le_trans hb.size h1) (fun k k1 k2=>(h2 k k1 (Nat.lt_of_lt_of_le k2 hb.size)).trans (hb.block k k2))
theorem Fresh.mono (h:Fresh base w P) (hb:base'≤base):Fresh base' w P:=fun W' h1 h2=>h W' h1 (fun k k1 k2=>h2 k (Nat.le_trans hb k1) k2)
theorem Fresh.rows (h:Fresh base w P) (hg:g < base) (a b c d e f:Value):Fresh base (put6 w g a b c d e f) P:=by
 have h1:=(put6_below (B:=0) (Below.refl 0 w) (g:=g) (Nat.zero_le _) a b c d e f).size
 have h2:=fun k (hk:k≠g)=>put6_other (w:=w) hk a b c d e f
 generalize put6 w g a b c d e f=W6 at *
 exact fun W' q1 q2=>h W' (Nat.le_trans h1 q1) (fun k k1 k2=>(q2 k k1 (Nat.lt_of_lt_of_le k2 h1)).trans (h2 k (by omega)))
theorem Fresh.set (h:Fresh base w P) (hg:g < base) (o:Nat) (u:Value):Fresh base (w.setCell ⟨g,o,none⟩ u) P:=fun W' q1 q2=>
 h W' (by simpa [World.setCell] using q1) (fun k k1 k2=>(q2 k k1 (by simpa [World.setCell] using k2)).trans (heap_setCell_other w _ k _ (by show k≠g;omega)))
end
def FailedPost (s:StL) (w:World) (e:Ending) (w':World):Prop:=
 ∃A c,e=.returned (encS s A c)∧s.load.length≤c∧Fresh w.heap.size w' (fun W=>RdW W W.heap.size A s.load)∧Below w.heap.size w w'
theorem fail_rdw {W:World} {g2 g3 g4:Nat} {t2 t3 t4:TypeId} {word:ByteArray} (h2:W.heap[g2]? = some (.cells #[.string ⟨#[]⟩,.string (⟨#[116,121,112,101]⟩:ByteArray),.string (⟨#[99,97,110,99,101,108]⟩:ByteArray)] t2 (0,0)))
  (h3:W.heap[g3]? = some (.cells #[.int .u8 1,.string (⟨#[106,97,98,98,101,114,58,99,108,105,101,110,116]⟩:ByteArray),.string (⟨#[101,114,114,111,114]⟩:ByteArray),.slice (some ⟨g2,0,none⟩) 1 1,.string ⟨#[]⟩,.int .i64 1,.int .u8 1,.string (⟨#[117,114,110,58,105,101,116,102,58,112,97,114,97,109,115,58,120,109,108,58,110,115,58,120,109,112,112,45,115,116,97,110,122,97,115]⟩:ByteArray),.string word,.slice none 0 0,.string ⟨#[]⟩,.int .i64 0] t3 (0,0)))
  (h4:W.heap[g4]? = some (.cells #[.slice (some ⟨g3,0,none⟩) 2 2] t4 (0,0))):RdW W W.heap.size (some ⟨g4,0,none⟩) [failV word]:=fun _=>by
 have l2:=(Array.getElem?_eq_some_iff.1 h2).1
 have l3:=(Array.getElem?_eq_some_iff.1 h3).1
 have l4:=(Array.getElem?_eq_some_iff.1 h4).1
 have hA:RdA W W.heap.size (some ⟨g2,0,none⟩) [⟨emB,(⟨#[116,121,112,101]⟩:ByteArray),(⟨#[99,97,110,99,101,108]⟩:ByteArray)⟩]:=fun _=>⟨g2,0,rfl,l2,fun i a hi=>by
  cases i with
  | succ i=>simp at hi
  | zero=>
   simp only [List.getElem?_cons_zero,Option.some.injEq] at hi
   subst hi
   refine⟨?_,?_,?_⟩ <;> simp [World.cell?,h2,emB]⟩
 have hV:RdV W W.heap.size (some ⟨g3,0,none⟩) (failV word):=fun _=>⟨g3,0,rfl,l3,fun i n hi=>by
  cases i with
  | zero=>
   simp only [failV,List.getElem?_cons_zero,Option.some.injEq] at hi
   subst hi
   refine⟨?_,?_,?_,⟨some ⟨g2,0,none⟩,1,?_,Nat.le_refl _,hA⟩,?_,?_⟩ <;> simp [World.cell?,h3,errH,emB]
  | succ i=>cases i with
   | succ i=>simp [failV] at hi
   | zero=>
    simp only [failV,List.getElem?_cons_zero,List.getElem?_cons_succ,Option.some.injEq] at hi
    subst hi
    refine⟨?_,?_,?_,⟨none,0,?_,Nat.le_refl _,fun h=>absurd h (by simp [errN])⟩,?_,?_⟩ <;> simp [World.cell?,h3,errN,errL,emB]⟩
 refine⟨g4,0,rfl,l4,fun i v hi=>?_⟩
 cases i with
 | succ i=>simp at hi
 | zero=>
  simp only [List.getElem?_cons_zero,Option.some.injEq] at hi
  subst hi
  exact⟨some ⟨g3,0,none⟩,2,by simp [World.cell?,h4,failV],Nat.le_refl _,hV⟩
theorem al_at (w W:World) (o:Obj) (n:Nat) (hn:n=w.heap.size) (h:Below (n+1) (w.alloc o) W):W.heap[n]? = some o:=by
 subst hn
 exact(h.block _ (Nat.lt_succ_self _)).trans (heap_alloc_new w o)
theorem al5 (w:World) (o1 o2 o3 o4 o5:Obj):∃W,W=((((w.alloc o1).alloc o2).alloc o3).alloc o4).alloc o5∧W.heap[w.heap.size+1]? = some o2∧W.heap[w.heap.size+1+1]? = some o3∧W.heap[w.heap.size+1+1+1]? = some o4∧W.heap[w.heap.size+1+1+1+1]? = some o5∧Below w.heap.size w W:=by
 refine⟨_,rfl,?_,?_,?_,?_,?_⟩
 ·exact al_at (w.alloc o1) _ o2 _ (by first|(simp;done)|(simp;omega)) ((((Below.refl _ _).alloc (by first|(simp;done)|(simp;omega)) _).alloc (by first|(simp;done)|(simp;omega)) _).alloc (by first|(simp;done)|(simp;omega)) _)
 ·exact al_at ((w.alloc o1).alloc o2) _ o3 _ (by first|(simp;done)|(simp;omega)) (((Below.refl _ _).alloc (by first|(simp;done)|(simp;omega)) _).alloc (by first|(simp;done)|(simp;omega)) _)
 ·exact al_at (((w.alloc o1).alloc o2).alloc o3) _ o4 _ (by first|(simp;done)|(simp;omega)) ((Below.refl _ _).alloc (by first|(simp;done)|(simp;omega)) _)
 ·exact al_at ((((w.alloc o1).alloc o2).alloc o3).alloc o4) _ o5 _ (by first|(simp;done)|(simp;omega)) (Below.refl _ _)
 ·exact(((((Below.refl _ _).alloc (Nat.le_refl _) _).alloc (by first|(simp;done)|(simp;omega)) _).alloc (by first|(simp;done)|(simp;omega)) _).alloc (by first|(simp;done)|(simp;omega)) _).alloc (by first|(simp;done)|(simp;omega)) _
set_option maxHeartbeats 1000000 in
set_option maxRecDepth 10000 in
theorem reffailed_any (s:StL) (A:Option Addr) (c:Nat) (word:ByteArray) (w:World) :
  Calls Tryz.prog 45 #[encS s A c,.string word] w (FailedPost (failS s word) w):=by
 unfold encS
 go_enter Tryz.func45,Tryz.ntmps45
 go_wp2
 obtain⟨W,hW,k2,k3,k4,k5,hb⟩:=al5 w (.cells #[.int .u8 s.kind,.string s.typ,.string s.id,.string s.frm,.string s.to,.slice A s.load.length c] 27) (.cells #[.int .u8 s.kind,.string (⟨#[101,114,114,111,114]⟩:ByteArray),.string s.id,.string s.to,.string s.frm,.slice (some ⟨w.heap.size+1+1+1+1,0,none⟩) 1 1] 27) (.cells #[.string ⟨#[]⟩,.string (⟨#[116,121,112,101]⟩:ByteArray),.string (⟨#[99,97,110,99,101,108]⟩:ByteArray)] 75)
  (.cells #[.int .u8 1,.string (⟨#[106,97,98,98,101,114,58,99,108,105,101,110,116]⟩:ByteArray),.string (⟨#[101,114,114,111,114]⟩:ByteArray),.slice (some ⟨w.heap.size+1+1,0,none⟩) 1 1,.string ⟨#[]⟩,.int .i64 1,.int .u8 1,.string (⟨#[117,114,110,58,105,101,116,102,58,112,97,114,97,109,115,58,120,109,108,58,110,115,58,120,109,112,112,45,115,116,97,110,122,97,115]⟩:ByteArray),.string word,.slice none 0 0,.string ⟨#[]⟩,.int .i64 0] 36) (.cells #[.slice (some ⟨w.heap.size+1+1+1,0,none⟩) 2 2] 22)
 rw [←hW]
 clear hW
 refine bodyPost_ret (v:=.agg #[.int .u8 s.kind,.string (⟨#[101,114,114,111,114]⟩:ByteArray),.string s.id,.string s.to,.string s.frm,.slice (some ⟨w.heap.size+1+1+1+1,0,none⟩) 1 1]) (results_one (fn:=Tryz.f45) (p:=4) (ty:=27) rfl _ _ (w.heap.size+1) _ _ _ rfl k2 Tryz.underlying27 (by kernel_rfl)) rfl ?_
 have l5:=(Array.getElem?_eq_some_iff.1 k5).1
 exact⟨some ⟨w.heap.size+1+1+1+1,0,none⟩,1,rfl,Nat.le_refl _,fun W' q1 q2=>fail_rdw ((q2 _ (by omega) (by omega)).trans k3) ((q2 _ (by omega) (by omega)).trans k4) ((q2 _ (by omega) (by omega)).trans k5),hb⟩
end Go.Proofs.YtnmnpnofdgdigaaGreatDoor
end
section
namespace Go.Proofs.YtnmnpnofdgdigaaGreatDoor
open Go.RowKit
set_option linter.unusedSimpArgs false
set_option linter.unusedVariables false
def FailsPost (s:StL) (word:ByteArray) (w:World) (e:Ending) (w':World):Prop:=
 ∃A c,e=.returned (.tuple #[encS (failR s word) A c,.int .i64 (failE s word)])∧(failR s word).load.length≤c∧Fresh w.heap.size w' (fun W=>RdW W W.heap.size A (failR s word).load)∧Below w.heap.size w w'
theorem FailsPost.no {s:StL} {word:ByteArray} {w w':World} {q:Int} (h:Below w.heap.size w w') (h1:failR s word=emS) (h2:failE s word=q):FailsPost s word w (.returned (.tuple #[encS emS none 0,.int .i64 q])) w':=by
 unfold FailsPost
 rw [h1,h2]
 exact⟨none,0,rfl,Nat.le_refl _,fun W' _ _ h=>absurd h (by decide),h⟩
theorem FailsPost.yes {s:StL} {word:ByteArray} {w w':World} {A:Option Addr} {c:Nat} (h:Below w.heap.size w w') (h1:failR s word=failS s word) (h2:failE s word=0) (h3:1≤c) (h4:Fresh w.heap.size w' (fun W=>RdW W W.heap.size A (failS s word).load)):FailsPost s word w (.returned (.tuple #[encS (failS s word) A c,.int .i64 0])) w':=by
 unfold FailsPost
 rw [h1,h2]
 exact⟨A,c,rfl,h3,h4,h⟩
theorem fail_bad {s:StL} {word:ByteArray} (h:stnI s=false):failR s word=emS∧failE s word=8:=by unfold failR failE;rw [h];exact⟨rfl,rfl⟩
theorem fail_no {s:StL} {word:ByteArray} (h:stnI s=true) (h1:(mayF s && nameI word)=false):failR s word=emS∧failE s word=2:=by unfold failR failE;rw [h,h1];exact⟨rfl,rfl⟩
theorem fail_yes {s:StL} {word:ByteArray} (h:stnI s=true) (h1:(mayF s && nameI word)=true):failR s word=failS s word∧failE s word=0:=by unfold failR failE;rw [h,h1];exact⟨rfl,rfl⟩
set_option maxHeartbeats 4000000 in
set_option maxRecDepth 10000 in
theorem reffail_any (s:StL) (A:Option Addr) (c:Nat) (word:ByteArray) (w:World) (hz:SzS s) (hr:RdW w w.heap.size A s.load) (hw:word.size≤1000000000) :
  Calls Tryz.prog 16 #[encS s A c,.string word] w (FailsPost s word w):=by
 obtain⟨W0,hW0⟩:∃W0,W0=(w.alloc (.cells #[.int .u8 s.kind,.string s.typ,.string s.id,.string s.frm,.string s.to,.slice A s.load.length c] 27)).alloc (.cells #[.int .u8 0,.string ⟨#[]⟩,.string ⟨#[]⟩,.string ⟨#[]⟩,.string ⟨#[]⟩,.slice none 0 0] 27):=⟨_,rfl⟩
 have hX0:Below w.heap.size w W0:=by rw [hW0];exact((Below.refl _ _).alloc (Nat.le_refl _) _).alloc (by simp) _
 have hS0:SAt W0 w.heap.size s A c:=by rw [hW0];exact(SAt.new _ _ _ _ _).ext ((Below.refl _ _).alloc (Nat.le_refl _) _)
 have hT0:SAt W0 (w.heap.size+1) emS none 0:=by
  rw [hW0]
  have h:=SAt.new (w.alloc (.cells #[.int .u8 s.kind,.string s.typ,.string s.id,.string s.frm,.string s.to,.slice A s.load.length c] 27)) 27 emS none 0
  rw [show(w.alloc (.cells #[.int .u8 s.kind,.string s.typ,.string s.id,.string s.frm,.string s.to,.slice A s.load.length c] 27)).heap.size=w.heap.size+1 by simp] at h
  exact h
 have HM:=Lib.hid (refsmay_any s A c W0 hz (RdW.ext hr hX0))
 have HMF:=Lib.hid (fun W=>refmayfail_any s A c W)
 have HNM:=Lib.hid (fun W=>refname_any word W hw)
 have HFD:=Lib.hid (fun W=>reffailed_any s A c word W)
 have HX0:=Lib.hid hX0
 have HS:=Lib.hid hS0
 have HT:=Lib.hid hT0
 have a0:=HS.out.c0
 have a1:=HS.out.c1
 have a2:=HS.out.c2
 have a3:=HS.out.c3
 have a4:=HS.out.c4
 have a5:=HS.out.c5
 rw [hW0] at a0 a1 a2 a3 a4 a5
 have HW0:=Lib.hid hW0
 have hg1:=hT0.lt
 clear hW0 hX0 hS0 hT0 hr hz
 unfold encS at HM HMF HFD ⊢
 unfold FailedPost at HFD
 have HB:=Lib.hid (@fail_bad s word)
 have HN:=Lib.hid (@fail_no s word)
 have HY:=Lib.hid (@fail_yes s word)
 cases hst:stnI s
 all_goals
  rw [hst] at HM
  have HST:=Lib.hid hst
  clear hst
 ·go_enter Tryz.func16,Tryz.ntmps16
  go_wp2_with fail
  rw [←HW0.out]
  refine HM.out.mono ?_
  rintro e w1 ⟨rfl,hb1⟩
  have X1:=Lib.hid (HX0.out.trans (hb1.mono HX0.out.size))
  have T1:=Lib.hid (HT.out.ext hb1)
  have hg2:=T1.out.lt
  have HP:=Lib.hid (HB.out HST.out)
  clear hb1
  clear a0 a1 a2 a3 a4 a5
  have z0:=T1.out.c0
  have z1:=T1.out.c1
  have z2:=T1.out.c2
  have z3:=T1.out.c3
  have z4:=T1.out.c4
  have z5:=T1.out.c5
  have f0:=T1.out.fz 0
  have f1:=T1.out.fz 1
  have f2:=T1.out.fz 2
  have f3:=T1.out.fz 3
  have f4:=T1.out.fz 4
  have f5:=T1.out.fz 5
  unfold emS at z0 z1 z2 z3 z4 z5
  dsimp only at z0 z1 z2 z3 z4 z5
  go_wp2
  obtain⟨tt,hh⟩:=T1.out.put emS none 0
  exact bodyPost_ret (v:=.tuple #[encS emS none 0,.int .i64 8])
   (results_jid (fn:=Tryz.f16) (p:=4) (s:=5) (ty:=27) rfl _ _ (w.heap.size+1) _ _ _ _ rfl rfl hh Tryz.underlying27 (by kernel_rfl)) rfl
   (FailsPost.no (put6_below X1.out (Nat.le_succ _) _ _ _ _ _ _) HP.out.1 HP.out.2)
 ·cases hm:mayF s
  all_goals
   rw [hm] at HMF
   have HMM:=Lib.hid hm
   clear hm
  ·go_enter Tryz.func16,Tryz.ntmps16
   go_wp2_with fail
   rw [←HW0.out]
   refine HM.out.mono ?_
   rintro e w1 ⟨rfl,hb1⟩
   have X1:=Lib.hid (HX0.out.trans (hb1.mono HX0.out.size))
   have T1:=Lib.hid (HT.out.ext hb1)
   have S1:=Lib.hid (HS.out.ext hb1)
   clear hb1
   clear a0 a1 a2 a3 a4 a5
   have a0:=S1.out.c0
   have a1:=S1.out.c1
   have a2:=S1.out.c2
   have a3:=S1.out.c3
   have a4:=S1.out.c4
   have a5:=S1.out.c5
   go_wp2_with fail
   refine(HMF.out _).mono ?_
   rintro e w2 ⟨rfl,hb2⟩
   have X2:=Lib.hid (X1.out.trans (hb2.mono X1.out.size))
   have T2:=Lib.hid (T1.out.ext hb2)
   have hg2:=T2.out.lt
   have HP:=Lib.hid (HN.out HST.out (by rw [HMM.out];rfl))
   clear hb2
   clear a0 a1 a2 a3 a4 a5
   have z0:=T2.out.c0
   have z1:=T2.out.c1
   have z2:=T2.out.c2
   have z3:=T2.out.c3
   have z4:=T2.out.c4
   have z5:=T2.out.c5
   have f0:=T2.out.fz 0
   have f1:=T2.out.fz 1
   have f2:=T2.out.fz 2
   have f3:=T2.out.fz 3
   have f4:=T2.out.fz 4
   have f5:=T2.out.fz 5
   unfold emS at z0 z1 z2 z3 z4 z5
   dsimp only at z0 z1 z2 z3 z4 z5
   go_wp2
   obtain⟨tt,hh⟩:=T2.out.put emS none 0
   exact bodyPost_ret (v:=.tuple #[encS emS none 0,.int .i64 2])
    (results_jid (fn:=Tryz.f16) (p:=4) (s:=5) (ty:=27) rfl _ _ (w.heap.size+1) _ _ _ _ rfl rfl hh Tryz.underlying27 (by kernel_rfl)) rfl
    (FailsPost.no (put6_below X2.out (Nat.le_succ _) _ _ _ _ _ _) HP.out.1 HP.out.2)
  ·cases hn:nameI word
   all_goals
    rw [hn] at HNM
    have HNN:=Lib.hid hn
    clear hn
    go_enter Tryz.func16,Tryz.ntmps16
    go_wp2_with fail
    rw [←HW0.out]
    refine HM.out.mono ?_
    rintro e w1 ⟨rfl,hb1⟩
    have X1:=Lib.hid (HX0.out.trans (hb1.mono HX0.out.size))
    have T1:=Lib.hid (HT.out.ext hb1)
    have S1:=Lib.hid (HS.out.ext hb1)
    clear hb1
    clear a0 a1 a2 a3 a4 a5
    have a0:=S1.out.c0
    have a1:=S1.out.c1
    have a2:=S1.out.c2
    have a3:=S1.out.c3
    have a4:=S1.out.c4
    have a5:=S1.out.c5
    go_wp2_with fail
    refine(HMF.out _).mono ?_
    rintro e w2 ⟨rfl,hb2⟩
    have X2:=Lib.hid (X1.out.trans (hb2.mono X1.out.size))
    have T2:=Lib.hid (T1.out.ext hb2)
    have S2:=Lib.hid (S1.out.ext hb2)
    have hg2:=T2.out.lt
    clear hb2
    clear a0 a1 a2 a3 a4 a5
    go_wp2_with fail
    refine(HNM.out _).mono ?_
    rintro e w3 ⟨rfl,rfl⟩
   ·have HP:=Lib.hid (HN.out HST.out (by rw [HMM.out,HNN.out];rfl))
    have z0:=T2.out.c0
    have z1:=T2.out.c1
    have z2:=T2.out.c2
    have z3:=T2.out.c3
    have z4:=T2.out.c4
    have z5:=T2.out.c5
    have f0:=T2.out.fz 0
    have f1:=T2.out.fz 1
    have f2:=T2.out.fz 2
    have f3:=T2.out.fz 3
    have f4:=T2.out.fz 4
    have f5:=T2.out.fz 5
    unfold emS at z0 z1 z2 z3 z4 z5
    dsimp only at z0 z1 z2 z3 z4 z5
    go_wp2
    obtain⟨tt,hh⟩:=T2.out.put emS none 0
    exact bodyPost_ret (v:=.tuple #[encS emS none 0,.int .i64 2])
     (results_jid (fn:=Tryz.f16) (p:=4) (s:=5) (ty:=27) rfl _ _ (w.heap.size+1) _ _ _ _ rfl rfl hh Tryz.underlying27 (by kernel_rfl)) rfl
     (FailsPost.no (put6_below X2.out (Nat.le_succ _) _ _ _ _ _ _) HP.out.1 HP.out.2)
   ·have HP:=Lib.hid (HY.out HST.out (by rw [HMM.out,HNN.out];rfl))
    have a0:=S2.out.c0
    have a1:=S2.out.c1
    have a2:=S2.out.c2
    have a3:=S2.out.c3
    have a4:=S2.out.c4
    have a5:=S2.out.c5
    go_wp2_with fail
    refine(HFD.out _).mono ?_
    rintro e w4 ⟨A9,c9,rfl,hl9,hr9,hb9⟩
    have X9:=Lib.hid (X2.out.trans (hb9.mono X2.out.size))
    have T9:=Lib.hid (T2.out.ext hb9)
    have R9:=Lib.hid hr9
    have L9:=Lib.hid hl9
    have S9:=Lib.hid X2.out.size
    clear hl9 hr9 hb9
    clear a0 a1 a2 a3 a4 a5
    have z0:=T9.out.c0
    have z1:=T9.out.c1
    have z2:=T9.out.c2
    have z3:=T9.out.c3
    have z4:=T9.out.c4
    have z5:=T9.out.c5
    have f0:=T9.out.fz 0
    have f1:=T9.out.fz 1
    have f2:=T9.out.fz 2
    have f3:=T9.out.fz 3
    have f4:=T9.out.fz 4
    have f5:=T9.out.fz 5
    unfold emS at z0 z1 z2 z3 z4 z5
    dsimp only at z0 z1 z2 z3 z4 z5
    unfold encS
    go_wp2
    obtain⟨tt,hh⟩:=T9.out.put (failS s word) A9 c9
    refine bodyPost_ret (v:=.tuple #[encS (failS s word) A9 c9,.int .i64 0])
     (results_jid (fn:=Tryz.f16) (p:=4) (s:=5) (ty:=27) rfl _ _ (w.heap.size+1) _ _ _ _ rfl rfl hh Tryz.underlying27 (by kernel_rfl)) rfl ?_
    exact FailsPost.yes (put6_below X9.out (Nat.le_succ _) _ _ _ _ _ _) HP.out.1 HP.out.2 L9.out ((R9.out.rows hg2 _ _ _ _ _ _).mono S9.out)
end Go.Proofs.YtnmnpnofdgdigaaGreatDoor
end
