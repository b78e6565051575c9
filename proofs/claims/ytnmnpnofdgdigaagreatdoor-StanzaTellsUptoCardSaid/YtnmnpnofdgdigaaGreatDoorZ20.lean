/- Part 20 of a proof laid in parts, one behind the other; no condition of its own. -/
import Derived.Test.YtnmnpnofdgdigaaGreatDoorZ16
import Derived.Test.YtnmnpnofdgdigaaGreatDoorZ19
import Derived.Test.YtnmnpnofdgdigaaGreatDoorZ03
import Derived.Test.YtnmnpnofdgdigaaGreatDoorZ07
set_option linter.all false
section
namespace Go.Proofs.YtnmnpnofdgdigaaGreatDoor
open Go.RowKit
set_option linter.unusedSimpArgs false
set_option linter.unusedVariables false
def LevP (s:ByteArray) (w:World) (e:Ending) (w':World):Prop:=e=.returned (.tuple #[.int .i64 (levV s),.int .i64 (levE s)])∧Below w.heap.size w w'
theorem LevP.no {s:ByteArray} {w w':World} (h:levOK s=false) (hb:Below w.heap.size w w'):LevP s w (.returned (.tuple #[.int .i64 0,.int .i64 60])) w':=by
 unfold LevP levV levE
 rw [h]
 exact⟨rfl,hb⟩
theorem LevP.yes {s:ByteArray} {w w':World} {v:Int} (h:levOK s=true) (hv:v=levS s*numV (levT s)) (hb:Below w.heap.size w w'):LevP s w (.returned (.tuple #[.int .i64 v,.int .i64 0])) w':=by
 unfold LevP levV levE
 rw [h,hv]
 exact⟨rfl,hb⟩
set_option maxHeartbeats 1000000 in
set_option maxRecDepth 10000 in
theorem numlevel_any (s:ByteArray) (w:World) (hs:s.size≤1000000000):Calls Tryz.prog 47 #[.string s] w (LevP s w):=by
 have HLO:Box (levOK s=(numOK (levT s) && decide (-128≤levS s*numV (levT s)∧levS s*numV (levT s)≤127) && !(decide (levS s < 0) && decide (numV (levT s)=0)))):=⟨rfl⟩
 by_cases hneg:(numsOf s).getD 0 0=45
 ·have hpos:0 < s.size:=by
   rcases Nat.eq_zero_or_pos s.size with h|h
   ·exfalso
    have:numsOf s=[]:=List.eq_nil_of_length_eq_zero (by rw [numsOf_length,h])
    rw [this] at hneg
    simp at hneg
   ·exact h
  have hT:levT s=s.extract 1 s.size:=by unfold levT;rw [if_pos hneg]
  have hS:levS s=-1:=by unfold levS;rw [if_pos hneg]
  have hne:=str_ne s hpos
  have hne2:(!s.toList.isEmpty)=true:=by rw [hne];rfl
  have hx0:=at_eq s 0 hpos
  have hxl:=b_lt s 0
  have h45:((b_at s 0:Int) == 45)=true:=by rw [beq_iff_eq,←nums_at s 0 hpos];exact hneg
  have hsl:∀W,(Instr.slice 9 (.string s) (some (.int .i64 1)) none none).run Tryz.prog W=.ok (.string (s.extract 1 s.size)) W:=fun W=>by
   have h:=sl_tail s 0 hpos hs W
   simpa using h
  have hts:(s.extract 1 s.size).size≤1000000000:=by
   rw [ByteArray.size_extract];omega
  have HRD:=Lib.hid (fun W=>numread_any (s.extract 1 s.size) W hts)
  unfold ReadP at HRD
  rw [hT,hS] at HLO
  have hnb:=numV_bd (s.extract 1 s.size)
  have HYE:Hid (levOK s=true→∀(v:Int) (w':World),v=-1*numV (s.extract 1 s.size)→Below w.heap.size w w'→LevP s w (.returned (.tuple #[.int .i64 v,.int .i64 0])) w'):=Lib.hid (fun h v w' hv hb=>LevP.yes h (by rw [hT,hS];exact hv) hb)
  have HNE:Box (numE (s.extract 1 s.size)=if numOK (s.extract 1 s.size) then 0 else 60):=⟨rfl⟩
  clear hneg hT hS hts
  generalize numV (s.extract 1 s.size)=n at *
  generalize numE (s.extract 1 s.size)=ne at *
  generalize numOK (s.extract 1 s.size)=ok at *
  generalize s.extract 1 s.size=t at *
  obtain⟨hn0',hn1'⟩:=hnb
  cases ok
  all_goals
   have hne':=HNE.out
   try simp only [Bool.false_eq_true,if_false] at hne'
   try simp only [if_true] at hne'
   subst hne'
   clear HNE
  ·have HL:Hid (levOK s=false):=Lib.hid (by rw [HLO.out];rfl)
   go_enter Tryz.func47,Tryz.ntmps47
   go_wp2_with fail
   go_region
   go_wp2_with fail
   refine(HRD.out _).mono ?_
   rintro e w1 ⟨rfl,hb1⟩
   have X1:=Lib.hid (show Below w.heap.size w w1 from(Below.refl w.heap.size w).drew.trans hb1)
   clear hb1
   go_wp2
   go_ret2
   exact LevP.no HL.out X1.out
  ·by_cases hr:n≤128
   ·have HF:Hid (∀W,Calls Tryz.prog 101 #[.int .i64 (-n),.int .i64 (-128),.int .i64 127] W fun e w'=>e=.returned (.bool true)∧W=w'):=Lib.hid (fun W=>by
     have h:=from_num (-n) (-128) 127 W
     rw [decide_eq_true (show -128≤-n∧-n≤127 by omega)] at h
     exact h)
    by_cases h0:n=0
    ·have hn0:(n == 0)=true:=by rw [beq_iff_eq];exact h0
     have HN0:=Lib.hid h0
     clear h0
     have HL:Hid (levOK s=false):=Lib.hid (by rw [HLO.out,decide_eq_true HN0.out];simp)
     go_enter Tryz.func47,Tryz.ntmps47
     go_wp2_with fail
     go_region
     go_wp2_with fail
     refine(HRD.out _).mono ?_
     rintro e w1 ⟨rfl,hb1⟩
     have X1:=Lib.hid (show Below w.heap.size w w1 from(Below.refl w.heap.size w).drew.trans hb1)
     clear hb1
     go_wp2_with fail
     refine(HF.out _).mono ?_
     rintro e w2 ⟨rfl,rfl⟩
     go_wp2
     go_ret2
     exact LevP.no HL.out X1.out
    ·have hn0:(n == 0)=false:=by rw [beq_eq_false_iff_ne];exact h0
     have HL:Hid (levOK s=true):=Lib.hid (by rw [HLO.out,decide_eq_true (show -128≤-1*n∧-1*n≤127 by omega),decide_eq_false h0];simp)
     clear h0
     go_enter Tryz.func47,Tryz.ntmps47
     go_wp2_with fail
     go_region
     go_wp2_with fail
     refine(HRD.out _).mono ?_
     rintro e w1 ⟨rfl,hb1⟩
     have X1:=Lib.hid (show Below w.heap.size w w1 from(Below.refl w.heap.size w).drew.trans hb1)
     clear hb1
     go_wp2_with fail
     refine(HF.out _).mono ?_
     rintro e w2 ⟨rfl,rfl⟩
     go_wp2
     go_ret2
     exact HYE.out HL.out _ _ (by omega) X1.out
   ·have HF:Hid (∀W,Calls Tryz.prog 101 #[.int .i64 (-n),.int .i64 (-128),.int .i64 127] W fun e w'=>e=.returned (.bool false)∧W=w'):=Lib.hid (fun W=>by
     have h:=from_num (-n) (-128) 127 W
     rw [decide_eq_false (show ¬(-128≤-n∧-n≤127) by omega)] at h
     exact h)
    have HL:Hid (levOK s=false):=Lib.hid (by rw [HLO.out,decide_eq_false (show ¬(-128≤-1*n∧-1*n≤127) by omega)];simp)
    clear hr
    go_enter Tryz.func47,Tryz.ntmps47
    go_wp2_with fail
    go_region
    go_wp2_with fail
    refine(HRD.out _).mono ?_
    rintro e w1 ⟨rfl,hb1⟩
    have X1:=Lib.hid (show Below w.heap.size w w1 from(Below.refl w.heap.size w).drew.trans hb1)
    clear hb1
    go_wp2_with fail
    refine(HF.out _).mono ?_
    rintro e w2 ⟨rfl,rfl⟩
    go_wp2
    go_ret2
    exact LevP.no HL.out X1.out
 ·have hT:levT s=s:=by unfold levT;rw [if_neg hneg]
  have hS:levS s=1:=by unfold levS;rw [if_neg hneg]
  have HRD:=Lib.hid (fun W=>numread_any s W hs)
  unfold ReadP at HRD
  rw [hT,hS] at HLO
  have hnb:=numV_bd s
  have HYE:Hid (levOK s=true→∀(v:Int) (w':World),v=1*numV s→Below w.heap.size w w'→LevP s w (.returned (.tuple #[.int .i64 v,.int .i64 0])) w'):=Lib.hid (fun h v w' hv hb=>LevP.yes h (by rw [hT,hS];exact hv) hb)
  have HNE:Box (numE s=if numOK s then 0 else 60):=⟨rfl⟩
  clear hT hS
  generalize numV s=n at *
  generalize numE s=ne at *
  generalize numOK s=ok at *
  obtain⟨hn0',hn1'⟩:=hnb
  rcases Nat.eq_zero_or_pos s.size with h|h
  ·have hne:=str_em s h
   have hne2:(!s.toList.isEmpty)=false:=by rw [hne];rfl
   clear hneg
   cases ok
   all_goals
    have hne':=HNE.out
    try simp only [Bool.false_eq_true,if_false] at hne'
    try simp only [if_true] at hne'
    subst hne'
    clear HNE
   ·have HL:Hid (levOK s=false):=Lib.hid (by rw [HLO.out];rfl)
    go_enter Tryz.func47,Tryz.ntmps47
    go_wp2_with fail
    refine(HRD.out _).mono ?_
    rintro e w1 ⟨rfl,hb1⟩
    have X1:=Lib.hid (show Below w.heap.size w w1 from hb1)
    clear hb1
    go_wp2
    go_ret2
    exact LevP.no HL.out X1.out
   ·by_cases hr:n≤127
    ·have HF:Hid (∀W,Calls Tryz.prog 101 #[.int .i64 (n),.int .i64 (-128),.int .i64 127] W fun e w'=>e=.returned (.bool true)∧W=w'):=Lib.hid (fun W=>by
      have h:=from_num (n) (-128) 127 W
      rw [decide_eq_true (show -128≤n∧n≤127 by omega)] at h
      exact h)
     by_cases h0:n=0
     ·have hn0:(n == 0)=true:=by rw [beq_iff_eq];exact h0
      have HN0:=Lib.hid h0
      clear h0
      have HL:Hid (levOK s=true):=Lib.hid (by rw [HLO.out,decide_eq_true (show -128≤1*n∧1*n≤127 by have:=HN0.out;omega)];simp)
      go_enter Tryz.func47,Tryz.ntmps47
      go_wp2_with fail
      refine(HRD.out _).mono ?_
      rintro e w1 ⟨rfl,hb1⟩
      have X1:=Lib.hid (show Below w.heap.size w w1 from hb1)
      clear hb1
      go_wp2_with fail
      refine(HF.out _).mono ?_
      rintro e w2 ⟨rfl,rfl⟩
      go_wp2
      go_ret2
      exact HYE.out HL.out _ _ (by omega) X1.out
     ·have hn0:(n == 0)=false:=by rw [beq_eq_false_iff_ne];exact h0
      have HL:Hid (levOK s=true):=Lib.hid (by rw [HLO.out,decide_eq_true (show -128≤1*n∧1*n≤127 by omega),decide_eq_false h0];simp)
      clear h0
      go_enter Tryz.func47,Tryz.ntmps47
      go_wp2_with fail
      refine(HRD.out _).mono ?_
      rintro e w1 ⟨rfl,hb1⟩
      have X1:=Lib.hid (show Below w.heap.size w w1 from hb1)
      clear hb1
      go_wp2_with fail
      refine(HF.out _).mono ?_
      rintro e w2 ⟨rfl,rfl⟩
      go_wp2
      go_ret2
      exact HYE.out HL.out _ _ (by omega) X1.out
    ·have HF:Hid (∀W,Calls Tryz.prog 101 #[.int .i64 (n),.int .i64 (-128),.int .i64 127] W fun e w'=>e=.returned (.bool false)∧W=w'):=Lib.hid (fun W=>by
      have h:=from_num (n) (-128) 127 W
      rw [decide_eq_false (show ¬(-128≤n∧n≤127) by omega)] at h
      exact h)
     have HL:Hid (levOK s=false):=Lib.hid (by rw [HLO.out,decide_eq_false (show ¬(-128≤1*n∧1*n≤127) by omega)];simp)
     clear hr
     go_enter Tryz.func47,Tryz.ntmps47
     go_wp2_with fail
     refine(HRD.out _).mono ?_
     rintro e w1 ⟨rfl,hb1⟩
     have X1:=Lib.hid (show Below w.heap.size w w1 from hb1)
     clear hb1
     go_wp2_with fail
     refine(HF.out _).mono ?_
     rintro e w2 ⟨rfl,rfl⟩
     go_wp2
     go_ret2
     exact LevP.no HL.out X1.out
  ·have hne:=str_ne s h
   have hne2:(!s.toList.isEmpty)=true:=by rw [hne];rfl
   have hx0:=at_eq s 0 h
   have hxl:=b_lt s 0
   have h45:((b_at s 0:Int) == 45)=false:=by rw [beq_eq_false_iff_ne,←nums_at s 0 h];exact hneg
   clear hneg
   cases ok
   all_goals
    have hne':=HNE.out
    try simp only [Bool.false_eq_true,if_false] at hne'
    try simp only [if_true] at hne'
    subst hne'
    clear HNE
   ·have HL:Hid (levOK s=false):=Lib.hid (by rw [HLO.out];rfl)
    go_enter Tryz.func47,Tryz.ntmps47
    go_wp2_with fail
    refine(HRD.out _).mono ?_
    rintro e w1 ⟨rfl,hb1⟩
    have X1:=Lib.hid (show Below w.heap.size w w1 from hb1)
    clear hb1
    go_wp2
    go_ret2
    exact LevP.no HL.out X1.out
   ·by_cases hr:n≤127
    ·have HF:Hid (∀W,Calls Tryz.prog 101 #[.int .i64 (n),.int .i64 (-128),.int .i64 127] W fun e w'=>e=.returned (.bool true)∧W=w'):=Lib.hid (fun W=>by
      have h:=from_num (n) (-128) 127 W
      rw [decide_eq_true (show -128≤n∧n≤127 by omega)] at h
      exact h)
     by_cases h0:n=0
     ·have hn0:(n == 0)=true:=by rw [beq_iff_eq];exact h0
      have HN0:=Lib.hid h0
      clear h0
      have HL:Hid (levOK s=true):=Lib.hid (by rw [HLO.out,decide_eq_true (show -128≤1*n∧1*n≤127 by have:=HN0.out;omega)];simp)
      go_enter Tryz.func47,Tryz.ntmps47
      go_wp2_with fail
      refine(HRD.out _).mono ?_
      rintro e w1 ⟨rfl,hb1⟩
      have X1:=Lib.hid (show Below w.heap.size w w1 from hb1)
      clear hb1
      go_wp2_with fail
      refine(HF.out _).mono ?_
      rintro e w2 ⟨rfl,rfl⟩
      go_wp2
      go_ret2
      exact HYE.out HL.out _ _ (by omega) X1.out
     ·have hn0:(n == 0)=false:=by rw [beq_eq_false_iff_ne];exact h0
      have HL:Hid (levOK s=true):=Lib.hid (by rw [HLO.out,decide_eq_true (show -128≤1*n∧1*n≤127 by omega),decide_eq_false h0];simp)
      clear h0
      go_enter Tryz.func47,Tryz.ntmps47
      go_wp2_with fail
      refine(HRD.out _).mono ?_
      rintro e w1 ⟨rfl,hb1⟩
      have X1:=Lib.hid (show Below w.heap.size w w1 from hb1)
      clear hb1
      go_wp2_with fail
      refine(HF.out _).mono ?_
      rintro e w2 ⟨rfl,rfl⟩
      go_wp2
      go_ret2
      exact HYE.out HL.out _ _ (by omega) X1.out
    ·have HF:Hid (∀W,Calls Tryz.prog 101 #[.int .i64 (n),.int .i64 (-128),.int .i64 127] W fun e w'=>e=.returned (.bool false)∧W=w'):=Lib.hid (fun W=>by
      have h:=from_num (n) (-128) 127 W
      rw [decide_eq_false (show ¬(-128≤n∧n≤127) by omega)] at h
      exact h)
     have HL:Hid (levOK s=false):=Lib.hid (by rw [HLO.out,decide_eq_false (show ¬(-128≤1*n∧1*n≤127) by omega)];simp)
     clear hr
     go_enter Tryz.func47,Tryz.ntmps47
     go_wp2_with fail
     refine(HRD.out _).mono ?_
     rintro e w1 ⟨rfl,hb1⟩
     have X1:=Lib.hid (show Below w.heap.size w w1 from hb1)
     clear hb1
     go_wp2_with fail
     refine(HF.out _).mono ?_
     rintro e w2 ⟨rfl,rfl⟩
     go_wp2
     go_ret2
     exact LevP.no HL.out X1.out
end Go.Proofs.YtnmnpnofdgdigaaGreatDoor
end
section
namespace Go.Proofs.YtnmnpnofdgdigaaGreatDoor
open Go.RowKit
set_option linter.unusedSimpArgs false
set_option linter.unusedVariables false
theorem ret_strD {a b:ByteArray} (h:a=b):Ending.returned (.string a)=.returned (.string b):=by rw [h]
theorem str_size (l:List Int):(strOfNums l).size=l.length:=by
 have h:(strOfNums l).data.toList.length=l.length:=by rw [strOfNums_data,List.length_map]
 rw [←h]
 generalize strOfNums l=s
 cases s
 rfl
theorem digF_len:∀f n,(digF f n).length≤f+1
 | 0,n=>by simp [digF]
 | f+1,n=>by
  rw [digF]
  split
  ·simp
  ·rw [List.length_append,List.length_singleton]
   have:=digF_len f (n / 10)
   omega
theorem conv_one (w:World) (c:Int):(convert 179 9 (.slice (some ⟨w.heap.size,0,none⟩) 1 1)).run Tryz.prog (w.alloc (.cells #[.int .u8 c] 5))=.ok (.string (strOfNums [c])) (w.alloc (.cells #[.int .u8 c] 5)):=
 conv_rd (xs:=[c]) (show Rd (w.alloc (.cells #[.int .u8 c] 5)) (w.heap.size+1) 1 (some ⟨w.heap.size,0,none⟩) 1 (ints .u8 [c]) from Rd.new w 5 #[.int .u8 c] (s:=1) (n:=1) rfl)
set_option maxHeartbeats 2000000 in
set_option maxRecDepth 10000 in
theorem digits_any (n:Nat) (w:World) (hn:n≤9007199254740991) :
  Calls Tryz.prog 127 #[.int .i64 (n:Int)] w fun e w'=>e=.returned (.string (digS n))∧Below w.heap.size w w':=by
 have HR:Box (digS n=strOfNums (digF 19 n)):=⟨rfl⟩
 generalize digS n=r at *
 go_enter Tryz.func127,Tryz.ntmps127
 go_wp2
 go_loopw [0,3] (fun s0 s3 wr=>∃(m f:Nat) (L:List Int),m≤9007199254740991∧s0=.int .i64 (m:Int)∧s3=.string (strOfNums L)∧Hid (digF 19 n=digF f m++L)∧Hid (m < 10 ^ (f+1))∧Hid (Below w.heap.size w wr)) (fun s0 _ _=>(intOf s0).toNat)
 case atStart=>exact⟨n,19,[],hn,rfl,rfl,Lib.hid (by rw [List.append_nil]),Lib.hid (by omega),Lib.hid (Below.refl _ _)⟩
 case round=>
  obtain⟨m,f,L,hm,rfl,rfl,HD,HF,HB⟩:=hrel
  have hsz:(strOfNums L).size≤20:=by
   have h1:=digF_len 19 n
   have h2:=HD.out
   rw [str_size]
   rw [h2,List.length_append] at h1
   omega
  by_cases h9:9 < m
  ·obtain⟨f',rfl⟩:∃f',f=f'+1:=by
    cases f with
    | zero=>have:=HF.out;simp at this;omega
    | succ f=>exact⟨f,rfl⟩
   have HD2:Hid (digF 19 n=digF f' (m / 10)++((48+(m:Int) % 10) :: L)):=Lib.hid (by rw [HD.out,digF_big _ _ (by omega),List.append_assoc];rfl)
   have HF2:Hid (m / 10 < 10 ^ (f'+1)):=Lib.hid (by
    have h:=HF.out
    rw [Nat.pow_succ] at h
    omega)
   have HS2:Hid (strOfNums [48+(m:Int) % 10]++strOfNums L=strOfNums ((48+(m:Int) % 10) :: L)):=Lib.hid (by rw [←str_append];rfl)
   have hcv:=conv_one wr (48+(m:Int) % 10)
   have hs1:(strOfNums [48+(m:Int) % 10]).size≤1:=by rw [str_size];exact Nat.le_refl _
   have HX:Hid (Below w.heap.size w (wr.alloc (.cells #[.int .u8 (48+(m:Int) % 10)] 5))):=Lib.hid (HB.out.alloc HB.out.size _)
   go_wp2
   go_roundw
   case rel=>exact⟨m / 10,f',(48+(m:Int) % 10) :: L,by omega,by go_num,by rw [←HS2.out],HD2,HF2,HX⟩
   case measure=>simp [intOf];omega
  ·have hcv:=conv_one wr (48+(m:Int))
   have hs1:(strOfNums [48+(m:Int)]).size≤1:=by rw [str_size];exact Nat.le_refl _
   have HX:Hid (Below w.heap.size w (wr.alloc (.cells #[.int .u8 (48+(m:Int))] 5))):=Lib.hid (HB.out.alloc HB.out.size _)
   have HE:Hid (strOfNums [48+(m:Int)]++strOfNums L=r):=Lib.hid (by rw [HR.out,HD.out,digF_small _ _ (by omega),str_append])
   go_wp2
   go_ret
   exact⟨ret_strD HE.out,HX.out⟩
theorem signS_neg {n:Int} (h:n < 0):signS n=strOfNums [45]++digS (-n).toNat:=by
 unfold signS digS
 rw [if_pos h,←str_append]
 rfl
set_option maxHeartbeats 1000000 in
set_option maxRecDepth 10000 in
theorem signed_any (n:Int) (w:World) (h0:-1000≤n) (h1:n≤1000) :
  Calls Tryz.prog 154 #[.int .i64 n] w fun e w'=>e=.returned (.string (signS n))∧Below w.heap.size w w':=by
 by_cases hn:n < 0
 ·obtain⟨m,hm⟩:∃m:Nat,(m:Int)=-n:=⟨(-n).toNat,by omega⟩
  have H:=Lib.hid (digits_any m w (by omega))
  have HE:Box (signS n=⟨#[45]⟩++digS m):=⟨by rw [signS_neg hn,show(-n).toNat=m by omega];rfl⟩
  have hsz:(digS m).size≤20:=by unfold digS;rw [str_size];exact digF_len 19 m
  have hs1:(⟨#[45]⟩:ByteArray).size≤1:=Nat.le_refl _
  rw [hm] at H
  generalize signS n=r at *
  generalize digS m=d at *
  clear hm
  go_enter Tryz.func154,Tryz.ntmps154
  go_wp2_with fail
  refine H.out.mono ?_
  rintro e w1 ⟨rfl,hb1⟩
  have X1:=Lib.hid hb1
  clear hb1
  go_wp2
  go_ret
  exact⟨ret_strD HE.out.symm,X1.out⟩
 ·obtain⟨m,rfl⟩:∃m:Nat,n=(m:Int):=⟨n.toNat,by omega⟩
  have H:=Lib.hid (digits_any m w (by omega))
  have HE:Box (signS (m:Int)=digS m):=⟨by unfold signS;rw [if_neg hn];rfl⟩
  generalize signS (m:Int)=r at *
  generalize digS m=d at *
  go_enter Tryz.func154,Tryz.ntmps154
  go_wp2_with fail
  refine H.out.mono ?_
  rintro e w1 ⟨rfl,hb1⟩
  have X1:=Lib.hid hb1
  clear hb1
  go_wp2
  go_ret
  exact⟨ret_strD HE.out.symm,X1.out⟩
set_option maxHeartbeats 2000000 in
set_option maxRecDepth 10000 in
theorem reflevel_any (s:ByteArray) (w:World):Calls Tryz.prog 104 #[.string s] w (LevP s w):=by
 go_enter Tryz.func104,Tryz.ntmps104
 go_wp2
 go_loopw [4] (fun s4 wr=>∃(k:Nat) (n:Int),k≤256∧s4=.int .i64 n∧(n+128≤k∧k≤n+128)∧Hid (∀j:Nat,j < k→s.toList≠(signS ((j:Int) - 128)).toList)∧Hid (Below w.heap.size w wr)) (fun s4 _=>(128 - intOf s4).toNat)
 case atStart=>exact⟨0,-128,by omega,rfl,⟨by omega,by omega⟩,Lib.hid (fun j hj=>absurd hj (by omega)),Lib.hid (Below.refl _ _)⟩
 case round=>
  obtain⟨k,n,hk,rfl,⟨hn1,hn2⟩,HN,HB⟩:=hrel
  by_cases hlt:n≤127
  ·have HS:=Lib.hid (signed_any n wr (by omega) (by omega))
   have HE:Hid (signS n=signS ((k:Int) - 128)):=Lib.hid (by rw [show(k:Int) - 128=n by omega])
   have HK:=Lib.hid (show k < 256 by omega)
   cases hq:((signS n).toList == s.toList)
   ·have HNX:Hid (∀j:Nat,j < k+1→s.toList≠(signS ((j:Int) - 128)).toList):=Lib.hid (fun j hj e=>by
     rcases Nat.lt_or_ge j k with h|h
     ·exact HN.out j h e
     ·obtain rfl:j=k:=by omega
      rw [←HE.out] at e
      rw [e] at hq
      simp at hq)
    clear HE HN
    generalize signS n=d at *
    go_wp2_with fail
    refine HS.out.mono ?_
    rintro e w1 ⟨rfl,hb1⟩
    have X1:=Lib.hid (HB.out.trans (hb1.mono HB.out.size))
    clear hb1
    go_wp2
    go_roundw
    case rel=>exact⟨k+1,n+1,by omega,by go_num,⟨by omega,by omega⟩,HNX,X1⟩
    case measure=>simp [intOf];omega
   ·have HL:=Lib.hid (lev_at HK.out (show s.toList=(signS ((k:Int) - 128)).toList by rw [←HE.out];exact(beq_iff_eq.1 hq).symm))
    have HV:Hid (levOK s=true∧levV s=n):=Lib.hid ⟨HL.out.1,by rw [HL.out.2];omega⟩
    clear HE HN HL
    generalize signS n=d at *
    go_wp2_with fail
    refine HS.out.mono ?_
    rintro e w1 ⟨rfl,hb1⟩
    have X1:=Lib.hid (HB.out.trans (hb1.mono HB.out.size))
    clear hb1
    go_wp2
    go_ret2
    exact LevP.yes HV.out.1 (by rw [←HV.out.2];unfold levV;rw [if_pos HV.out.1]) X1.out
  ·have HL:Hid (levOK s=false):=Lib.hid (by
    cases h:levOK s with
    | false=>rfl
    | true=>
     obtain⟨e,h1,h2⟩:=sign_of_lev h
     exfalso
     refine HN.out (levV s+128).toNat (by omega) ?_
     rw [show(((levV s+128).toNat:Nat):Int) - 128=levV s by omega,←e])
   go_wp2
   go_ret2
   exact LevP.no HL.out HB.out
end Go.Proofs.YtnmnpnofdgdigaaGreatDoor
end
section
namespace Go.Proofs.YtnmnpnofdgdigaaGreatDoor
open Go.RowKit
set_option linter.unusedSimpArgs false
set_option linter.unusedVariables false
def saidT (v:List NodeL) (k:Nat):List UInt8:=(nodeAt v k).text.data.toList
def saidK (v:List NodeL) (k:Nat):List UInt8:=((kidsI v 0).take k).flatMap (saidT v)
def saidI (v:List NodeL):ByteArray:=⟨((kidsI v 0).flatMap (saidT v)).toArray⟩
theorem saidK_succ (v:List NodeL) {k j:Nat} (h:(kidsI v 0)[k]? = some j):saidK v (k+1)=saidK v k++saidT v j:=by
 unfold saidK
 rw [List.take_add_one,h]
 simp
theorem saidK_all (v:List NodeL):saidI v=⟨(saidK v (kidsI v 0).length).toArray⟩:=by unfold saidI saidK;rw [List.take_length]
theorem kids_512 {v:List NodeL} (ht:treeI v=true):(kidsI v 0).length≤512:=by
 have h0:=(tree_parts ht).1
 have h5:=(tree_parts ht).2.1
 have he:=(tree_parts ht).2.2.2
 have h1:=(chain_start he).lt (by omega)
 unfold kidsI
 rw [kidL_len]
 omega
theorem root_text {v:List NodeL} {n:NodeL} (ht:treeI v=true) (hn:v[0]? = some n):n.kind=1∧n.text=⟨#[]⟩:=by
 obtain⟨h0,h5,⟨n',hn',hk⟩,he⟩:=tree_parts ht
 rw [hn] at hn'
 simp only [Option.some.injEq] at hn'
 subst hn'
 obtain⟨m,hm,hnd,-⟩:=endN_inv (d:=11) he
 rw [hn] at hm
 simp only [Option.some.injEq] at hm
 subst hm
 refine⟨hk,?_⟩
 unfold nodeI at hnd
 rw [if_neg (by omega)] at hnd
 simp only [Bool.and_eq_true] at hnd
 have h:=hnd.1.1.1.2
 unfold isEmp at h
 rw [decide_eq_true_eq] at h
 have hl:n.text.data.toList=[]:=List.eq_nil_of_length_eq_zero (by rw [←h];generalize n.text=s;cases s;rfl)
 apply ByteArray.ext
 apply Array.ext'
 simpa using hl
set_option maxHeartbeats 4000000 in
set_option maxRecDepth 10000 in
theorem twords_any (v:List NodeL) (A:Option Addr) (c:Nat) (w:World) (hc:v.length≤c) (hz:SzV 1000000000 v) (hr:RdV w w.heap.size A v) (ht:treeI v=true) :
  Calls Tryz.prog 102 #[.slice A v.length c,.int .i64 0] w fun e w'=>e=.returned (.tuple #[.string (saidI v),.int .i64 0])∧Below w.heap.size w w':=by
 have hl0:=(tree_parts ht).1
 have hl5:=(tree_parts ht).2.1
 have H:=Lib.hid (kids_any v A c 0 w hc hz hr ht hl0)
 unfold KidsPost at H
 obtain⟨n,hn⟩:∃n,v[0]? = some n:=⟨_,List.getElem?_eq_getElem hl0⟩
 have hrt:=root_text ht hn
 obtain⟨b,off,rfl,hb,hcc⟩:=hr hl0
 obtain⟨-,-,-,-,t4,-⟩:=hcc 0 n hn
 rw [Nat.zero_mul,Nat.add_zero,hrt.2] at t4
 have HT4:=Lib.hid t4
 have HCC:=Lib.hid (fun(i:Nat) (m:NodeL) (hi:v[i]? = some m)=>(hcc i m hi).2.2.2.2.1)
 have HKL:Hid (∀k∈kidsI v 0,k < v.length):=Lib.hid (fun k hk=>(kids_lt (tree_parts ht).2.2.2 hk).1)
 have HSK:=Lib.hid (fun k j h=>saidK_succ v (k:=k) (j:=j) h)
 have HAL:=Lib.hid (saidK_all v)
 have HS0:Hid (saidK v 0=[]):=Lib.hid rfl
 have HZT:Hid (∀j:Nat,(saidT v j).length≤1000000000):=Lib.hid (fun j=>by
  unfold saidT nodeAt
  rw [List.getD_eq_getElem?_getD]
  cases hj:v[j]? with
  | none=>simp;exact Nat.le_trans (by decide) (show 0≤1000000000 by omega)
  | some m=>
   have h:=(hz.2 m (List.mem_of_getElem? hj)).2.2.2.2.1
   show m.text.data.toList.length≤_
   refine Nat.le_trans (Nat.le_of_eq ?_) h
   generalize m.text=s
   cases s
   rfl)
 have HKN:=Lib.hid (kids_512 ht)
 clear hr hz hc ht hcc hn hrt t4
 generalize saidI v=r at *
 generalize hK:(kidsI v 0).length=K at *
 have HK:=Lib.hid hK
 clear hK
 go_enter Tryz.func102,Tryz.ntmps102
 go_wp2_with fail
 refine H.out.mono ?_
 rintro e w1 ⟨u,rfl,hown,hb1⟩
 obtain⟨A1,c1,rfl⟩:=own_form hown
 have HRD:=Lib.hid (Rd.of_own hown)
 have X1:=Lib.hid hb1
 have hs1:=hb1.size
 have e4:=(hb1.cell (p:=⟨b,off+4,none⟩) hb).trans HT4.out
 have HI0:=Lib.hid (Lib.fresh_isBuilder 182 5 w1)
 obtain⟨W2,hW2⟩:∃W2,W2=w1.alloc (.cells #[.pointer none,.slice none 0 0] 182):=⟨_,rfl⟩
 have hX2:Below w1.heap.size w1 W2:=by rw [hW2];exact(Below.refl _ _).alloc (Nat.le_refl _) _
 have e4':=(hX2.cell (p:=⟨b,off+4,none⟩) (by show b < _;omega)).trans e4
 rw [hW2] at e4'
 have HWS:=Lib.hid (builder_ws w1.heap.size w1.heap.size [] ⟨#[]⟩ _ HI0.out (by show 0+0≤_;omega) (by simp))
 rw [←hW2] at HWS
 have HX2:=Lib.hid hX2
 have HW2:=Lib.hid hW2
 clear hown hb1 hX2 hW2 HI0 e4
 go_wp2_with fail
 rw [←HW2.out]
 refine HWS.out.mono ?_
 rintro e w3 ⟨rfl,hB3,hb3⟩
 have HB3:Hid (Lib.IsBuilder 182 5 w1.heap.size w1.heap.size (Lib.byteCells (saidK v 0)) w3):=Lib.hid (by rw [HS0.out];exact .inr hB3)
 have X3:Hid (Below w1.heap.size w1 w3):=Lib.hid (HX2.out.trans hb3)
 clear hB3 hb3 e4'
 go_wp2
 go_loopw [10,28] (fun _ s28 wr=>∃k:Nat,k≤K∧s28=.int .i64 k∧Hid (Below w1.heap.size w1 wr)∧Hid (Lib.IsBuilder 182 5 w1.heap.size w1.heap.size (Lib.byteCells (saidK v k)) wr)∧Hid ((saidK v k).length≤k*1000000000)∧Hid (w1.heap.size≤wr.heap.size)) (fun _ s28 _=>K - (intOf s28).toNat)
 case atStart=>exact⟨0,Nat.zero_le _,rfl,X3,HB3,Lib.hid (by rw [HS0.out];exact Nat.zero_le _),Lib.hid X3.out.size⟩
 case round=>
  obtain⟨k,hk,rfl,HB,HBU,HLN,HSZ⟩:=hrel
  have hK5:=HKN.out
  by_cases hlt:k < K
  ·obtain⟨j,hj⟩:∃j,(kidsI v 0)[k]? = some j:=⟨_,List.getElem?_eq_getElem (by have:=HK.out;omega)⟩
   have hjl:=HKL.out j (List.mem_of_getElem? hj)
   obtain⟨m,hm⟩:∃m,v[j]? = some m:=⟨_,List.getElem?_eq_getElem hjl⟩
   obtain⟨b2,o2,x,rfl,hb2,hx,hcx⟩:=(HRD.out.below HB.out (Nat.le_refl _)).at_ hlt
   have hxj:x=.int .i64 (j:Int):=by
    have h2:(ints .i64 ((kidsI v 0).map fun k:Nat=>(k:Int)))[k]? = some (.int .i64 (j:Int)):=by simp [ints,hj]
    rw [h2] at hx
    simpa using hx.symm
   subst hxj
   have hcm:=(HB.out.cell (p:=⟨b,off+j*6+4,none⟩) (by show b < _;omega)).trans ((X1.out.cell (p:=⟨b,off+j*6+4,none⟩) hb).trans (HCC.out j m hm))
   have HSU:Hid (saidK v (k+1)=saidK v k++m.text.data.toList):=Lib.hid (by
    rw [HSK.out k j hj]
    unfold saidT nodeAt
    rw [List.getD_eq_getElem?_getD,hm]
    rfl)
   have HT:=Lib.hid (HZT.out j)
   have HTL:Hid ((saidT v j).length=m.text.size):=Lib.hid (by
    unfold saidT nodeAt
    rw [List.getD_eq_getElem?_getD,hm]
    show m.text.data.toList.length=_
    generalize m.text=s
    cases s
    rfl)
   have HK5:Hid (k≤512):=Lib.hid (by have:=HKN.out;omega)
   have hjl':(j:Int) < (v.length:Int):=by omega
   have HWS2:=Lib.hid (builder_ws w1.heap.size w1.heap.size (Lib.byteCells (saidK v k)) m.text wr HBU.out (by rw [Lib.byteCells_length];have h1:=HLN.out;have h2:=HT.out;have h3:=HTL.out;have h4:=HK5.out;omega) HSZ.out)
   clear hj hm hx
   go_wp2_with fail
   refine HWS2.out.mono ?_
   rintro e w4 ⟨rfl,hB4,hb4⟩
   have HB4:Hid (Lib.IsBuilder 182 5 w1.heap.size w1.heap.size (Lib.byteCells (saidK v (k+1))) w4):=Lib.hid (by rw [HSU.out,Lib.byteCells_append];exact .inr hB4)
   have X4:Hid (Below w1.heap.size w1 w4):=Lib.hid (HB.out.trans hb4)
   have HL4:Hid ((saidK v (k+1)).length≤(k+1)*1000000000):=Lib.hid (by
    rw [HSU.out,List.length_append]
    have h1:=HLN.out
    have h2:=HT.out
    have h3:=HTL.out
    have h5:m.text.data.toList.length=m.text.size:=by generalize m.text=s;cases s;rfl
    omega)
   clear hB4 hb4
   go_wp2
   go_roundw
   case rel=>exact⟨k+1,by omega,by go_num,X4,HB4,HL4,Lib.hid X4.out.size⟩
   case measure=>simp [intOf];omega
  ·obtain rfl:k=K:=by omega
   have HST:=Lib.hid (Tryz.Builder_String_any w1.heap.size w1.heap.size (saidK v k) wr HBU.out HSZ.out)
   have HAL2:Hid (r=⟨(saidK v k).toArray⟩):=Lib.hid (by rw [HAL.out])
   go_wp2_with fail
   refine HST.out.mono ?_
   rintro e w5 ⟨rfl,hb5⟩
   have X5:Hid (Below w.heap.size w w5):=Lib.hid (X1.out.trans ((HB.out.trans hb5).mono hs1))
   clear hb5
   go_wp2
   go_ret2
   exact⟨by rw [HAL2.out];rfl,X5.out⟩
theorem words_tree (v:List NodeL) (A:Option Addr) (c:Nat) (w:World) (hc:v.length≤c) (hz:SzV 1000000000 v) (hr:RdV w w.heap.size A v) (ht:treeI v=true) :
  Calls Tryz.prog 48 #[.slice A v.length c] w fun e w'=>e=.returned (.string (saidI v))∧Below w.heap.size w w':=by
 have H:=Lib.hid (twords_any v A c w hc hz hr ht)
 clear hc hz hr ht
 generalize v.length=N at *
 generalize saidI v=r at *
 go_enter Tryz.func48,Tryz.ntmps48
 go_wp2_with fail
 refine H.out.mono ?_
 rintro e w1 ⟨rfl,hb1⟩
 have X1:=Lib.hid hb1
 clear hb1
 go_wp2
 go_ret
 exact⟨rfl,X1.out⟩
theorem saidK_str (v:List NodeL) {k j:Nat} {m:NodeL} (h:(kidsI v 0)[k]? = some j) (hm:v[j]? = some m):(⟨(saidK v k).toArray⟩:ByteArray)++m.text=⟨(saidK v (k+1)).toArray⟩:=by
 rw [saidK_succ v h]
 apply ByteArray.ext
 apply Array.ext'
 unfold saidT nodeAt
 rw [List.getD_eq_getElem?_getD,hm]
 simp
set_option maxHeartbeats 2000000 in
set_option maxRecDepth 10000 in
theorem refsaid_any (v:List NodeL) (A:Option Addr) (c:Nat) (w:World) (hc:v.length≤c) (hz:SzV 1000000000 v) (hr:RdV w w.heap.size A v) (ht:treeI v=true) :
  Calls Tryz.prog 105 #[.slice A v.length c,.int .i64 0] w fun e w'=>e=.returned (.string (saidI v))∧Below w.heap.size w w':=by
 have hl0:=(tree_parts ht).1
 have hl5:=(tree_parts ht).2.1
 have H:=Lib.hid (refunder_any v A c 0 w hc hz hr ht hl0)
 unfold UnderPost at H
 obtain⟨n,hn⟩:∃n,v[0]? = some n:=⟨_,List.getElem?_eq_getElem hl0⟩
 have hrt:=root_text ht hn
 obtain⟨b,off,rfl,hb,hcc⟩:=hr hl0
 obtain⟨t0,-⟩:=hcc 0 n hn
 rw [Nat.zero_mul,Nat.add_zero,hrt.1] at t0
 have HCC:=Lib.hid (fun(i:Nat) (m:NodeL) (hi:v[i]? = some m)=>(hcc i m hi).2.2.2.2.1)
 have HKL:Hid (∀k∈kidsI v 0,k < v.length):=Lib.hid (fun k hk=>(kids_lt (tree_parts ht).2.2.2 hk).1)
 have HAL:=Lib.hid (saidK_all v)
 have HS0:Hid ((⟨#[]⟩:ByteArray)=⟨(saidK v 0).toArray⟩):=Lib.hid rfl
 have HKN:=Lib.hid (kids_512 ht)
 have HZT:Hid (∀(j:Nat) (m:NodeL),v[j]? = some m→m.text.size≤1000000000):=Lib.hid (fun j m hm=>(hz.2 m (List.mem_of_getElem? hm)).2.2.2.2.1)
 have hpos:(0:Int) < (v.length:Int):=by omega
 clear hr hz hc ht hcc hn hrt
 generalize saidI v=r at *
 generalize hK:(kidsI v 0).length=K at *
 have HK:=Lib.hid hK
 clear hK
 go_enter Tryz.func105,Tryz.ntmps105
 go_wp2_with fail
 refine H.out.mono ?_
 rintro e w1 ⟨u,rfl,hown,hb1⟩
 obtain⟨A1,c1,rfl⟩:=own_form hown
 have HRD:=Lib.hid (Rd.of_own hown)
 have X1:=Lib.hid hb1
 clear hown hb1 t0
 go_wp2
 go_loop [5,7] (fun s5 s7=>∃(k:Nat) (t:ByteArray),k≤K∧s7=.int .i64 k∧s5=.string t∧Hid (t=⟨(saidK v k).toArray⟩)∧t.size≤k*1000000000) (fun _ s7=>K - (intOf s7).toNat)
 case atStart=>exact⟨0,⟨#[]⟩,Nat.zero_le _,rfl,rfl,HS0,Nat.zero_le _⟩
 case round=>
  obtain⟨k,t,hk,rfl,rfl,HT,hts⟩:=hrel
  have hK5:=HKN.out
  by_cases hlt:k < K
  ·obtain⟨j,hj⟩:∃j,(kidsI v 0)[k]? = some j:=⟨_,List.getElem?_eq_getElem (by have:=HK.out;omega)⟩
   have hjl:=HKL.out j (List.mem_of_getElem? hj)
   obtain⟨m,hm⟩:∃m,v[j]? = some m:=⟨_,List.getElem?_eq_getElem hjl⟩
   obtain⟨b2,o2,x,rfl,hb2,hx,hcx⟩:=HRD.out.at_ hlt
   have hxj:x=.int .i64 (j:Int):=by
    have h2:(ints .i64 ((kidsI v 0).map fun k:Nat=>(k:Int)))[k]? = some (.int .i64 (j:Int)):=by simp [ints,hj]
    rw [h2] at hx
    simpa using hx.symm
   subst hxj
   have hcm:=(X1.out.cell (p:=⟨b,off+j*6+4,none⟩) hb).trans (HCC.out j m hm)
   have hms:=HZT.out j m hm
   have HSU:Hid (t++m.text=⟨(saidK v (k+1)).toArray⟩):=Lib.hid (by rw [HT.out];exact saidK_str v hj hm)
   have HSZ:Hid ((t++m.text).size≤(k+1)*1000000000):=Lib.hid (by rw [ByteArray.size_append];omega)
   have hjl':(j:Int) < (v.length:Int):=by omega
   clear hj hm hx
   go_wp2
   go_round
   case rel=>exact⟨k+1,t++m.text,by omega,by go_num,rfl,HSU,HSZ.out⟩
   case measure=>simp [intOf];omega
  ·obtain rfl:k=K:=by omega
   have HAL2:Hid (t=r):=Lib.hid (by rw [HAL.out,HT.out])
   go_wp2
   go_ret
   exact⟨ret_strD HAL2.out,X1.out⟩
end Go.Proofs.YtnmnpnofdgdigaaGreatDoor
end
section
namespace Go.Proofs.YtnmnpnofdgdigaaGreatDoor
open Go.RowKit
set_option linter.unusedSimpArgs false
set_option linter.unusedVariables false
def addressI (s:ByteArray):Bool:=isEmp s || ((parseI s).isSome && eqS (textJ (parsedJ s)) s)
theorem parse_jid (s:ByteArray):jidI (parsedJ s)=(parseI s).isSome:=by
 unfold parsedJ
 have h0:jidI emJ=false:=by rfl
 unfold parseI
 split
 ·rw [Option.getD_none,h0];rfl
 ·rename_i h
  rw [Option.getD_some]
  simp only [Bool.or_eq_true,Bool.not_eq_true',not_or,Bool.not_eq_false] at h
  rw [h.2];rfl
theorem parsed_sz (s:ByteArray):(parsedJ s).loc.size≤s.size∧(parsedJ s).dom.size≤s.size∧(parsedJ s).res.size≤s.size:=by
 have h0:emB.size=0:=rfl
 have h1:=readJ_sz s
 unfold parsedJ parseI
 split
 ·rw [Option.getD_none]
  exact⟨by show emB.size≤_;omega,by show emB.size≤_;omega,by show emB.size≤_;omega⟩
 ·rw [Option.getD_some];exact h1
set_option maxHeartbeats 4000000 in
set_option maxRecDepth 10000 in
theorem address_any (s:ByteArray) (w:World) (hs:s.size≤1000000000) (hg:Glb w):Calls Tryz.prog 61 #[.string s] w fun e w'=>e=.returned (.bool (addressI s))∧Below w.heap.size w w':=by
 have hz:=parsed_sz s
 have H1:=Lib.hid (jparse_any s w hs hg)
 have H2:=Lib.hid (fun W (hW:Glb W)=>write_any (parsedJ s) W ⟨by omega,by omega,by omega⟩ hW)
 unfold ParsePost at H1
 have HA:Box (addressI s=(isEmp s || ((parseI s).isSome && eqS (textJ (parsedJ s)) s))):=⟨rfl⟩
 have HPJ:=Box.mk (parse_jid s)
 have HJE:Box (jidErr (parsedJ s)=if jidI (parsedJ s) then 0 else 8):=⟨rfl⟩
 rw [HPJ.out] at HJE H2
 have HG:=Lib.hid hg
 have el:=emp_iff s
 unfold eqS at HA
 clear HPJ hz hg
 generalize addressI s=q at *
 generalize (parseI s).isSome=ok at *
 generalize parseE s=pe at *
 generalize textJ (parsedJ s)=T at *
 generalize jidErr (parsedJ s)=je at *
 generalize parsedJ s=j at *
 obtain⟨l,d,r⟩:=j
 unfold encJ at H1 H2
 cases ok
 all_goals
  have hje:=HJE.out
  try simp only [Bool.false_eq_true,if_false] at hje H2
  try simp only [if_true] at hje H2
  subst hje
  clear HJE
  cases he:isEmp s
  all_goals
   rw [he] at el HA
   clear he
   go_enter Tryz.func61,Tryz.ntmps61
   go_wp2_with fail
   refine H1.out.mono ?_
   rintro e w1 ⟨rfl,hb1⟩
   have X1:=Lib.hid hb1
   have XA:Hid (Below w.heap.size w (w1.alloc (.cells #[.string l,.string d,.string r] 102))):=hb1.alloc hb1.size _
   clear hb1
   go_wp2_with fail
   refine(H2.out _ (HG.out.below XA.out)).mono ?_
   rintro e w2 ⟨rfl,hb2⟩
   have X2:=Lib.hid (XA.out.trans (hb2.mono XA.out.size))
   clear hb2
   go_wp2
   go_ret
   exact⟨(ret_bool (by first|(rw [HA.out];done)|(rw [HA.out];simp_all;done))),X2.out⟩
set_option maxHeartbeats 4000000 in
set_option maxRecDepth 10000 in
theorem refaddress_any (s:ByteArray) (w:World) (hs:s.size≤1000000000):Calls Tryz.prog 93 #[.string s] w fun e w'=>e=.returned (.bool (addressI s))∧Below w.heap.size w w':=by
 have hz:=parsed_sz s
 have H1:=Lib.hid (refjparse_any s w hs)
 have H2:=Lib.hid (fun W=>reftext_any (parsedJ s) W ⟨by omega,by omega,by omega⟩)
 unfold ParsePost at H1
 have HA:Box (addressI s=(isEmp s || ((parseI s).isSome && eqS (textJ (parsedJ s)) s))):=⟨rfl⟩
 have HPE:Box (parseE s=if (parseI s).isSome then 0 else 190):=⟨rfl⟩
 have el:=emp_iff s
 unfold eqS at HA
 clear hz
 generalize addressI s=q at *
 generalize (parseI s).isSome=ok at *
 generalize parseE s=pe at *
 generalize textJ (parsedJ s)=T at *
 generalize parsedJ s=j at *
 obtain⟨l,d,r⟩:=j
 unfold encJ at H1 H2
 cases ok
 all_goals
  have hpe:=HPE.out
  try simp only [Bool.false_eq_true,if_false] at hpe
  try simp only [if_true] at hpe
  subst hpe
  clear HPE
  cases he:isEmp s
  all_goals
   rw [he] at el HA
   clear he
   go_enter Tryz.func93,Tryz.ntmps93
   go_wp2_with fail
   refine H1.out.mono ?_
   rintro e w1 ⟨rfl,hb1⟩
   have X1:=Lib.hid hb1
   have XA:Hid (Below w.heap.size w (w1.alloc (.cells #[.string l,.string d,.string r] 102))):=hb1.alloc hb1.size _
   clear hb1
   go_wp2_with (first
     | (go_at_call 150;refine(H2.out _).mono ?_;rintro e w1 ⟨rfl,hb2⟩))
   go_ret
   first|exact⟨(ret_bool (by first|(rw [HA.out];done)|(rw [HA.out];simp_all;done))),XA.out⟩|exact⟨(ret_bool (by first|(rw [HA.out];done)|(rw [HA.out];simp_all;done))),XA.out.trans (hb2.mono XA.out.size)⟩
end Go.Proofs.YtnmnpnofdgdigaaGreatDoor
end
section
namespace Go.Proofs.YtnmnpnofdgdigaaGreatDoor
def idI (k:Int) (s:ByteArray):Bool:=decide (s.size≤64) && decide (textErr s=0) && (!decide (k=3) || !isEmp s)
def stnI (s:StL):Bool:=typedI s.kind s.typ && idI s.kind s.id && addressI s.frm && addressI s.to && !decide (16 < s.load.length) && s.load.all spaceI
def stnErr (s:StL):Int:=if stnI s then 0 else 8
def SzW (l:List (List NodeL)):Prop:=l.length≤1000000000∧∀v∈l,SzV 1000000000 v
def SzS (s:StL):Prop:=(0≤s.kind∧s.kind < 256)∧s.typ.size≤1000000000∧s.id.size≤1000000000∧s.frm.size≤1000000000∧s.to.size≤1000000000∧SzW s.load
end Go.Proofs.YtnmnpnofdgdigaaGreatDoor
end
