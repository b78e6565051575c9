/- Part 11 of a proof laid in parts, one behind the other; no condition of its own. -/
import Derived.Test.YtnmnpnofdgdigaaGreatDoorZ10
import Derived.Test.YtnmnpnofdgdigaaGreatDoorZ06
import Derived.Test.YtnmnpnofdgdigaaGreatDoorZ05
import Derived.Test.YtnmnpnofdgdigaaGreatDoorZ07
import Derived.Test.YtnmnpnofdgdigaaGreatDoorZ09
set_option linter.all false
section
namespace Go.Proofs.YtnmnpnofdgdigaaGreatDoor
open Go.RowKit
set_option linter.unusedSimpArgs false
set_option linter.unusedVariables false
set_option maxRecDepth 10000 in
theorem reflower_any (s:ByteArray) (w:World) (hs:s.size≤1000000000):Calls Tryz.prog 187 #[.string s] w fun e w'=>e=.returned (.string (lowI s))∧Below w.heap.size w w':=by
 have HX:Box (lowI s=strOfNums ((numsOf s).map low1)):=⟨rfl⟩
 have HN:=Lib.hid (numsOf_length s)
 generalize lowI s=r at *
 go_enter Tryz.func187,Tryz.ntmps187
 go_wp2
 go_loopw [3,4,5] (fun s3 s4 _ wr=>∃k:Nat,k≤s.size∧s4=.int .i64 k∧Hid (wr.ownsRow w.heap.size 5 1 s3 k (ints .u8 (((numsOf s).map low1).take k)))∧Hid (Below w.heap.size w wr)) (fun _ s4 _ _=>s.size - (intOf s4).toNat)
 case atStart=>exact⟨0,Nat.zero_le _,rfl,World.ownsRow_nil _ _ _ _,Lib.hid (Below.refl _ _)⟩
 case round=>
  obtain⟨k,hk,rfl,HO,HB⟩:=hrel
  obtain⟨A3,c3,rfl⟩:=own_form HO.out
  by_cases hlt:k < s.size
  ·have hx:=at_eq s k hlt
   have hxl:b_at s k < 256:=b_lt s k
   have HT:Hid (((numsOf s).map low1).take (k+1)=((numsOf s).map low1).take k++[low1 (b_at s k:Int)]):=by
    show _=_
    have h1:(numsOf s)[k]? = some (b_at s k:Int):=by
     have:=numsOf_get s k hlt
     rw [this,hx]
    rw [List.take_add_one,List.getElem?_map,h1]
    rfl
   generalize b_at s k=x at *
   have hsz:=HB.out.size
   by_cases hup:65≤(x:Int)∧(x:Int)≤90
   ·obtain⟨hu1,hu2⟩:=hup
    have HL:Box (low1 (x:Int)=(x:Int)+32):=⟨if_pos ⟨hu1,hu2⟩⟩
    rw [HL.out] at HT
    have HRN:Hid (Rd (wr.alloc (.cells #[.int .u8 ((x:Int)+32)] 5)) (wr.heap.size+1) 1 (some ⟨wr.heap.size,0,none⟩) 1 (ints .u8 [(x:Int)+32])):=rd_int1 wr _ _ _
    have HOA:=Lib.hid (HO.out.alloc (.cells #[.int .u8 ((x:Int)+32)] 5))
    clear HX HL
    go_wp2_with (at_builtin;refine app_u8s rfl _ _ rfl w.heap.size _ k _ rfl HOA.out _ _ _ _ _ rfl HRN.out (by omega) (by simp;omega) ?_)
    intro v4 w4 hown4 hg4 hbk
    have HX4:Hid (Below w.heap.size w w4):=(HB.out.alloc hsz _).grown hg4 (by simp;omega) (fun q hq=>(HO.out.lt q hq).1)
    have HO4:=Lib.hid hown4
    clear hown4 hg4 hbk
    go_wp2
    go_roundw
    case rel=>exact⟨k+1,by omega,by go_num,by rw [HT.out];exact HO4,HX4⟩
    case measure=>simp [intOf];omega
   ·have HL:Box (low1 (x:Int)=(x:Int)):=⟨if_neg hup⟩
    rw [HL.out] at HT
    have HRN:Hid (Rd (wr.alloc (.cells #[.int .u8 (x:Int)] 5)) (wr.heap.size+1) 1 (some ⟨wr.heap.size,0,none⟩) 1 (ints .u8 [(x:Int)])):=rd_int1 wr _ _ _
    have HOA:=Lib.hid (HO.out.alloc (.cells #[.int .u8 (x:Int)] 5))
    have hcase:(x:Int) < 65∨90 < (x:Int):=by omega
    clear hup HL
    rcases hcase with hc|hc
    all_goals
     go_wp2_with (at_builtin;refine app_u8s rfl _ _ rfl w.heap.size _ k _ rfl HOA.out _ _ _ _ _ rfl HRN.out (by omega) (by simp;omega) ?_)
     intro v4 w4 hown4 hg4 hbk
     have HX4:Hid (Below w.heap.size w w4):=(HB.out.alloc hsz _).grown hg4 (by simp;omega) (fun q hq=>(HO.out.lt q hq).1)
     have HO4:=Lib.hid hown4
     clear hown4 hg4 hbk
     go_wp2
     go_roundw
     case rel=>exact⟨k+1,by omega,by go_num,by rw [HT.out];exact HO4,HX4⟩
     case measure=>simp [intOf];omega
  ·obtain rfl:k=s.size:=by omega
   have hcv:=conv_rd (c:=c3) (Rd.of_own HO.out)
   have HE:Box (strOfNums (((numsOf s).map low1).take s.size)=r):=⟨by rw [HX.out,List.take_of_length_le (by rw [List.length_map,HN.out];exact Nat.le_refl _)]⟩
   rw [HE.out] at hcv
   go_wp2
   go_ret
   exact⟨rfl,HB.out⟩
def plainC (c:Int):Bool:=decide ((97≤c∧c≤122)∨(48≤c∧c≤57))
theorem plain_all:∀n:Fin 256,plainL.contains n.val.toUInt8=plainC (n.val:Int):=by decide +kernel
theorem loc_all:∀n:Fin 256,locL.contains n.val.toUInt8=(plainC (n.val:Int) || decide (n.val=46) || decide (n.val=45) || decide (n.val=95)):=by decide +kernel
theorem dom_all:∀n:Fin 256,domL.contains n.val.toUInt8=(plainC (n.val:Int) || decide (n.val=46) || decide (n.val=45)):=by decide +kernel
theorem at_u8 (s:ByteArray) (i:Nat):(b_at s i).toUInt8=s.get! i:=by unfold b_at;simp
theorem plain_at (s:ByteArray) (i:Nat):plainL.contains (s.get! i)=plainC (b_at s i:Int):=by
 have h:=plain_all ⟨b_at s i,b_lt s i⟩
 rwa [at_u8] at h
theorem loc_at (s:ByteArray) (i:Nat):locL.contains (s.get! i)=(plainC (b_at s i:Int) || decide (b_at s i=46) || decide (b_at s i=45) || decide (b_at s i=95)):=by
 have h:=loc_all ⟨b_at s i,b_lt s i⟩
 rwa [at_u8] at h
theorem dom_at (s:ByteArray) (i:Nat):domL.contains (s.get! i)=(plainC (b_at s i:Int) || decide (b_at s i=46) || decide (b_at s i=45)):=by
 have h:=dom_all ⟨b_at s i,b_lt s i⟩
 rwa [at_u8] at h
theorem setAll_iff (cs:List UInt8) (s:ByteArray):setAll cs s=true↔∀i,i < s.size→cs.contains (s.get! i)=true:=by
 refine⟨fun h i hi=>set_at h i hi,fun h=>?_⟩
 unfold setAll
 rw [List.all_eq_true]
 intro b hb
 obtain⟨i,hi,rfl⟩:=List.mem_iff_getElem.1 hb
 have h1:=h i hi
 have e:s.get! i=s.data.toList[i]:=by
  show s.data[i]! = _
  rw [getElem!_pos s.data i hi]
  rfl
 rwa [e] at h1
theorem setAll_no {cs:List UInt8} {s:ByteArray} {i:Nat} (hi:i < s.size) (h:cs.contains (s.get! i)=false):setAll cs s=false:=by
 cases hq:setAll cs s with
 | false=>rfl
 | true=>rw [set_at hq i hi] at h;cases h
theorem plain_any (c:Int) (w:World):Calls Tryz.prog 224 #[.int .u8 c] w fun e w'=>e=.returned (.bool (plainC c))∧w=w':=by
 have HX:Box (plainC c=decide ((97≤c∧c≤122)∨(48≤c∧c≤57))):=⟨rfl⟩
 generalize plainC c=r at *
 go_enter Tryz.func224,Tryz.ntmps224
 go_wp2
 all_goals
  go_ret
  exact⟨ret_bool (by rw [HX.out];first|rfl|decide|(rw [Bool.eq_iff_iff];simp only [Bool.and_eq_true,Bool.or_eq_true,Bool.not_eq_true',Bool.not_eq_true,decide_eq_true_eq,decide_eq_false_iff_not,beq_iff_eq,bne_iff_ne,beq_eq_false_iff_ne,bne_eq_false_iff_eq,Bool.false_eq_true,ne_eq,true_and,and_true,false_or,or_false,reduceCtorEq,false_iff,true_iff,iff_false,iff_true];omega)|(simp;done)|(simp;omega)),rfl⟩
theorem lenOK_iff (s:ByteArray):lenOK s=decide (1≤(s.size:Int)∧(s.size:Int)≤64):=by
 unfold lenOK isEmp
 rw [Bool.eq_iff_iff]
 simp only [Bool.and_eq_true,Bool.not_eq_true',decide_eq_false_iff_not,decide_eq_true_eq]
 omega
set_option maxHeartbeats 4000000 in
set_option maxRecDepth 10000 in
theorem reflocal_any (s:ByteArray) (w:World) (hs:s.size≤1000000000):Calls Tryz.prog 210 #[.string s] w fun e w'=>e=.returned (.bool (localI s))∧w=w':=by
 have HX:Box (localI s=(lenOK s && setAll locL s)):=⟨rfl⟩
 have HNO:=Lib.hid (fun i hi h=>setAll_no (cs:=locL) (s:=s) (i:=i) hi h)
 have HAT:=Lib.hid (fun i=>loc_at s i)
 have HLE:=Box.mk (lenOK_iff s)
 have HAI:=Lib.hid (setAll_iff locL s).2
 generalize localI s=r at *
 go_enter Tryz.func210,Tryz.ntmps210
 go_wp2
 go_loop [3] (fun s3=>∃k:Nat,k≤s.size∧s3=.int .i64 k∧Hid (∀i,i < k→locL.contains (s.get! i)=true)) (fun s3=>s.size - (intOf s3).toNat)
 case atStart=>exact⟨0,Nat.zero_le _,rfl,Lib.hid (fun i hi=>absurd hi (by omega))⟩
 case round=>
  obtain⟨k,hk,rfl,HN⟩:=hrel
  by_cases hlt:k < s.size
  ·have hx:=at_eq s k hlt
   have hxl:b_at s k < 256:=b_lt s k
   have HP:=Lib.hid (fun W=>plain_any (b_at s k:Int) W)
   have HK:=Box.mk (HAT.out k)
   have HNOK:Hid (locL.contains (s.get! k)=false→r=false):=Lib.hid (fun h=>by rw [HX.out,HNO.out k hlt h,Bool.and_false])
   have HNX:Hid (locL.contains (s.get! k)=true→∀i,i < k+1→locL.contains (s.get! i)=true):=Lib.hid (fun h i hi=>by
    rcases Nat.lt_or_ge i k with h1|h1
    ·exact HN.out i h1
    ·obtain rfl:i=k:=by omega
     exact h)
   generalize b_at s k=x at *
   generalize plainC (x:Int)=pc at *
   generalize locL.contains (s.get! k)=lc at *
   cases pc
   ·by_cases h1:x=46
    ·subst h1
     go_wp2_with fail
     refine(HP.out _).mono ?_
     rintro e w1 ⟨rfl,rfl⟩
     go_wp2
     go_round
     case rel=>exact⟨k+1,by omega,by go_num,HNX.out (by rw [HK.out];simp)⟩
     case measure=>simp [intOf];omega
    ·by_cases h2:x=45
     ·subst h2
      go_wp2_with fail
      refine(HP.out _).mono ?_
      rintro e w1 ⟨rfl,rfl⟩
      go_wp2
      go_round
      case rel=>exact⟨k+1,by omega,by go_num,HNX.out (by rw [HK.out];simp)⟩
      case measure=>simp [intOf];omega
     ·by_cases h3:x=95
      ·subst h3
       go_wp2_with fail
       refine(HP.out _).mono ?_
       rintro e w1 ⟨rfl,rfl⟩
       go_wp2
       go_round
       case rel=>exact⟨k+1,by omega,by go_num,HNX.out (by rw [HK.out];simp)⟩
       case measure=>simp [intOf];omega
      ·have q1:((x:Int) != 46)=true:=by rw [bne_iff_ne];omega
       have q2:((x:Int) != 45)=true:=by rw [bne_iff_ne];omega
       have q3:((x:Int) != 95)=true:=by rw [bne_iff_ne];omega
       have HRF:Box (r=false):=⟨HNOK.out (by rw [HK.out,decide_eq_false h1,decide_eq_false h2,decide_eq_false h3];rfl)⟩
       clear h1 h2 h3
       go_wp2_with fail
       refine(HP.out _).mono ?_
       rintro e w1 ⟨rfl,rfl⟩
       go_wp2
       go_ret
       exact⟨ret_bool HRF.out.symm,rfl⟩
   ·go_wp2_with fail
    refine(HP.out _).mono ?_
    rintro e w1 ⟨rfl,rfl⟩
    go_wp2
    go_round
    case rel=>exact⟨k+1,by omega,by go_num,HNX.out (by rw [HK.out];rfl)⟩
    case measure=>simp [intOf];omega
  ·obtain rfl:k=s.size:=by omega
   have HRX:Box (r=decide (1≤(s.size:Int)∧(s.size:Int)≤64)):=⟨by rw [HX.out,HAI.out HN.out,Bool.and_true,HLE.out]⟩
   clear HX HLE
   go_wp2
   all_goals
    go_ret
    exact⟨ret_bool (by rw [HRX.out];first|rfl|decide|(rw [Bool.eq_iff_iff];simp only [Bool.and_eq_true,Bool.or_eq_true,Bool.not_eq_true',Bool.not_eq_true,decide_eq_true_eq,decide_eq_false_iff_not,beq_iff_eq,bne_iff_ne,beq_eq_false_iff_ne,bne_eq_false_iff_eq,Bool.false_eq_true,ne_eq,true_and,and_true,false_or,or_false,reduceCtorEq,false_iff,true_iff,iff_false,iff_true];omega)|(simp;done)|(simp;omega)),rfl⟩
end Go.Proofs.YtnmnpnofdgdigaaGreatDoor
end
section
namespace Go.Proofs.YtnmnpnofdgdigaaGreatDoor
open Go.RowKit
set_option linter.unusedSimpArgs false
set_option linter.unusedVariables false
theorem ret_strA {a b:ByteArray} (h:a=b):Ending.returned (.string a)=.returned (.string b):=by rw [h]
theorem find1_any (a:AttrL) (name:ByteArray) (B:Nat) (w:World) (hB:w.cell? ⟨B,0,none⟩=some (.string name)) :
  Calls Tryz.prog 81 (#[encA a]++#[.pointer (some ⟨B,0,none⟩)]) w fun e w'=>e=.returned (.bool (isAttr name a))∧Below w.heap.size w w':=by
 have hBl:=World.block_lt_of_cell? w _ hB
 have hne:B≠w.heap.size:=by simp only [] at hBl;omega
 have HX:=Lib.hid ((Below.refl w.heap.size w).alloc (Nat.le_refl _) (.cells #[.string a.space,.string a.name,.string a.value] 75))
 have HG:Box (isAttr name a=(a.space.toList.isEmpty && (a.name.toList == name.toList))):=⟨rfl⟩
 generalize isAttr name a=r at *
 unfold encA
 rw [List.append_toArray,List.singleton_append]
 cases h0:a.space.toList.isEmpty
 all_goals
  rw [h0] at HG
  go_enter Tryz.func81,Tryz.ntmps81
  go_wp2
  go_ret
  exact⟨(ret_bool (by first|(rw [HG.out];done)|(rw [HG.out];simp_all;done))),HX.out⟩
set_option maxHeartbeats 1000000 in
set_option maxRecDepth 10000 in
theorem find_any (n:NodeL) (A:Option Addr) (c:Nat) (name:ByteArray) (w:World) (hr:RdA w w.heap.size A n.attrs) (hc:n.attrs.length≤c) (hn:n.attrs.length≤1000000000) :
  Calls Tryz.prog 34 #[encN n A c,.string name] w fun e w'=>e=.returned (.string (findI n name))∧Below w.heap.size w w':=by
 obtain⟨W0,hW0⟩:∃W0,W0=(w.alloc (.cells #[.int .u8 n.kind,.string n.space,.string n.name,.slice A n.attrs.length c,.string n.text,.int .i64 n.many] 36)).alloc (.cells #[.string name] 9):=⟨_,rfl⟩
 have hX0:Below w.heap.size w W0:=by rw [hW0];exact((Below.refl _ _).alloc (Nat.le_refl _) _).alloc (by simp) _
 have hN0:W0.heap[w.heap.size]? = some (.cells #[.int .u8 n.kind,.string n.space,.string n.name,.slice A n.attrs.length c,.string n.text,.int .i64 n.many] 36 (0,0)):=by
  rw [hW0];exact heap_ext (heap_alloc_new w _) ((Below.refl _ _).alloc (Nat.le_refl _) _)
 have hB0:W0.heap[w.heap.size+1]? = some (.cells #[.string name] 9 (0,0)):=by
  rw [hW0]
  have h:=heap_alloc_new (w.alloc (.cells #[.int .u8 n.kind,.string n.space,.string n.name,.slice A n.attrs.length c,.string n.text,.int .i64 n.many] 36)) (.cells #[.string name] 9)
  simpa using h
 have eg:=enters_of (P:=Tryz.prog) Tryz.func81 (by kernel_rfl) rfl
 have H:=Lib.hid (idxA_any 81 #[.pointer (some ⟨w.heap.size+1,0,none⟩)] A c n.attrs (isAttr name) W0 ((hr.below hX0 (Nat.le_refl _)).more hX0.size) hn eg
  (fun W i x hW hx=>(find1_any x name (w.heap.size+1) W (by simp [World.cell?,heap_ext hB0 hW])).mono fun e w' h=>⟨h.1,hW.trans (h.2.mono hW.size)⟩))
 have HF:Box (findI n name=valAt n.attrs (fstP (isAttr name) n.attrs)):=⟨rfl⟩
 have HX0:=Lib.hid hX0
 have HC3:Hid (∀W,Below W0.heap.size W0 W→W.cell? ⟨w.heap.size,3,none⟩=some (.slice A n.attrs.length c)):=Lib.hid (fun W hW=>by simp [World.cell?,heap_ext hN0 hW])
 have HR:=Lib.hid hr
 rw [hW0] at H HX0 HC3
 clear hW0 hX0 hN0 hB0 eg hr
 generalize findI n name=r at *
 unfold encN
 cases ho:fstP (isAttr name) n.attrs with
 | none=>
  rw [ho] at H HF
  unfold placeI at H
  unfold valAt at HF
  clear ho
  go_enter Tryz.func34,Tryz.ntmps34
  go_wp2_with fail
  refine H.out.mono ?_
  rintro e w1 ⟨rfl,hb1⟩
  go_wp2
  go_ret
  exact⟨ret_strA (by rw [HF.out];rfl),HX0.out.trans (hb1.mono HX0.out.size)⟩
 | some i=>
  obtain⟨x,hx,-,-⟩:=fstP_some ho
  have hil:=(List.getElem?_eq_some_iff.1 hx).1
  rw [ho] at H HF
  unfold placeI at H
  have HF:Box (r=x.value):=⟨by
   rw [HF.out]
   show(match n.attrs[i]? with|some a=>a.value|none=>emB)=_
   rw [hx]⟩
  obtain⟨b,off,rfl,hb,hcc⟩:=HR.out (by omega)
  have hv:=(hcc i x hx).2.2
  have HV:=Lib.hid hv
  have hi0:¬(i:Int) < 0:=by omega
  clear ho hcc hx hv
  go_enter Tryz.func34,Tryz.ntmps34
  go_wp2_with fail
  refine H.out.mono ?_
  rintro e w1 ⟨rfl,hb1⟩
  have X1:=Lib.hid (HX0.out.trans (hb1.mono HX0.out.size))
  have c3:=HC3.out _ hb1
  have cv:=(X1.out.cell (p:=⟨b,off+i*3+2,none⟩) hb).trans HV.out
  clear hb1
  go_wp2
  go_ret
  exact⟨ret_strA HF.out.symm,X1.out⟩
set_option maxHeartbeats 1000000 in
set_option maxRecDepth 10000 in
theorem reffind_any (n:NodeL) (A:Option Addr) (c:Nat) (name:ByteArray) (w:World) (hr:RdA w w.heap.size A n.attrs) (hc:n.attrs.length≤c) (hn:n.attrs.length≤1000000000) :
  Calls Tryz.prog 84 #[encN n A c,.string name] w fun e w'=>e=.returned (.string (findI n name))∧Below w.heap.size w w':=by
 obtain⟨W0,hW0⟩:∃W0,W0=w.alloc (.cells #[.int .u8 n.kind,.string n.space,.string n.name,.slice A n.attrs.length c,.string n.text,.int .i64 n.many] 36):=⟨_,rfl⟩
 have hX0:Below w.heap.size w W0:=by rw [hW0];exact(Below.refl _ _).alloc (Nat.le_refl _) _
 have HX0:=Lib.hid hX0
 have hN0:W0.heap[w.heap.size]? = some (.cells #[.int .u8 n.kind,.string n.space,.string n.name,.slice A n.attrs.length c,.string n.text,.int .i64 n.many] 36 (0,0)):=by
  rw [hW0];exact heap_alloc_new w _
 have c3:W0.cell? ⟨w.heap.size,3,none⟩=some (.slice A n.attrs.length c):=by simp [World.cell?,hN0]
 have HC3:=Lib.hid c3
 have HR:=Lib.hid hr
 have HF:Box (findI n name=valAt n.attrs (fstP (isAttr name) n.attrs)):=⟨rfl⟩
 have HWE:=Lib.hid hW0
 clear hW0 hX0 hN0 hr c3
 generalize findI n name=r at *
 unfold encN
 go_enter Tryz.func84,Tryz.ntmps84
 go_wp2_with fail
 rw [←HWE.out]
 go_loop [5] (fun s5=>∃k:Nat,k≤n.attrs.length∧s5=.int .i64 k∧Hid (∀(j:Nat) (y:AttrL),j < k→n.attrs[j]? = some y→isAttr name y=false)) (fun s5=>n.attrs.length - (intOf s5).toNat)
 case atStart=>exact⟨0,Nat.zero_le _,rfl,Lib.hid (fun j y hj=>absurd hj (by omega))⟩
 case round=>
  obtain⟨k,hk,rfl,HN⟩:=hrel
  have c3:=HC3.out
  by_cases hlt:k < n.attrs.length
  ·obtain⟨x,hx⟩:∃x,n.attrs[k]? = some x:=⟨_,List.getElem?_eq_getElem hlt⟩
   have HX:=Lib.hid hx
   obtain⟨b,off,rfl,hb,hcc⟩:=HR.out (by omega)
   obtain⟨a0,a1,a2⟩:=(hcc k x hx).keep (w':=W0) hb (fun q hq=>HX0.out.cell hq)
   have hia:isAttr name x=(x.space.toList.isEmpty && (x.name.toList == name.toList)):=rfl
   clear hx hcc
   cases hq:isAttr name x with
   | true=>
    have HFX:Box (r=x.value):=⟨by
     rw [HF.out,fstP_is HX.out hq HN.out]
     show(match n.attrs[k]? with|some a=>a.value|none=>emB)=_
     rw [HX.out]⟩
    rw [hq] at hia
    have hia':=hia.symm
    simp only [Bool.and_eq_true] at hia'
    obtain⟨i1,i2⟩:=hia'
    clear hia hq
    go_wp2
    go_ret
    exact⟨ret_strA HFX.out.symm,HX0.out⟩
   | false=>
    have HN2:Hid (∀(j:Nat) (y:AttrL),j < k+1→n.attrs[j]? = some y→isAttr name y=false):=Lib.hid (fun j y hj hy=>by
     rcases Nat.lt_or_ge j k with h1|h1
     ·exact HN.out j y h1 hy
     ·obtain rfl:j=k:=by omega
      rw [HX.out] at hy
      simp only [Option.some.injEq] at hy
      rw [←hy];exact hq)
    rw [hq] at hia
    have hia':=hia.symm
    simp only [Bool.and_eq_false_iff] at hia'
    clear hia hq
    cases h0:x.space.toList.isEmpty
    ·go_wp2
     go_round
     case rel=>exact⟨k+1,by omega,by go_num,HN2⟩
     case measure=>simp [intOf];omega
    ·have i2:(x.name.toList == name.toList)=false:=by
      rcases hia' with h|h
      ·rw [h0] at h;cases h
      ·exact h
     clear hia'
     go_wp2
     go_round
     case rel=>exact⟨k+1,by omega,by go_num,HN2⟩
     case measure=>simp [intOf];omega
  ·have HFX:Box (r=emB):=⟨by
    rw [HF.out,fstP_not (fun j y hy=>HN.out j y (by have:=(List.getElem?_eq_some_iff.1 hy).1;omega) hy)]
    rfl⟩
   obtain rfl:k=n.attrs.length:=by omega
   go_wp2
   go_ret
   exact⟨ret_strA (by rw [HFX.out];rfl),HX0.out⟩
theorem blank_all:∀n:Fin 256,blankL.contains n.val.toUInt8=blankB n.val:=by decide +kernel
theorem blank_at (s:ByteArray) (i:Nat):blankL.contains (s.get! i)=blankB (b_at s i):=by
 have h:=blank_all ⟨b_at s i,b_lt s i⟩
 rwa [at_u8] at h
set_option maxRecDepth 10000 in
theorem refblank_any (s:ByteArray) (w:World) (hs:s.size≤1000000000):Calls Tryz.prog 141 #[.string s] w fun e w'=>e=.returned (.bool (blankI s))∧w=w':=by
 have HNO:=Lib.hid (fun i hi h=>setAll_no (cs:=blankL) (s:=s) (i:=i) hi h)
 have HAI:=Lib.hid (setAll_iff blankL s).2
 have HB:Box (blankI s=setAll blankL s):=⟨rfl⟩
 generalize blankI s=r at *
 go_enter Tryz.func141,Tryz.ntmps141
 go_wp2
 go_loop [3] (fun s3=>∃k:Nat,k≤s.size∧s3=.int .i64 k∧Hid (∀i,i < k→blankL.contains (s.get! i)=true)) (fun s3=>s.size - (intOf s3).toNat)
 case atStart=>exact⟨0,Nat.zero_le _,rfl,Lib.hid (fun i hi=>absurd hi (by omega))⟩
 case round=>
  obtain⟨k,hk,rfl,HN⟩:=hrel
  by_cases hlt:k < s.size
  ·have hx:=at_eq s k hlt
   have hxl:b_at s k < 256:=b_lt s k
   have HK:=Box.mk (blank_at s k)
   have HNX:Hid (blankL.contains (s.get! k)=true→∀i,i < k+1→blankL.contains (s.get! i)=true):=Lib.hid (fun h i hi=>by
    rcases Nat.lt_or_ge i k with h1|h1
    ·exact HN.out i h1
    ·obtain rfl:i=k:=by omega
     exact h)
   by_cases hb:b_at s k=32∨b_at s k=9∨b_at s k=10∨b_at s k=13
   ·have HY:=Lib.hid (HNX.out (by rw [HK.out];unfold blankB;exact decide_eq_true hb))
    generalize b_at s k=x at *
    clear HK HNX
    rcases hb with rfl|rfl|rfl|rfl
    all_goals
     go_wp2
     go_round
     case rel=>exact⟨k+1,by omega,by go_num,HY⟩
     case measure=>simp [intOf];omega
   ·have HRF:Box (r=false):=⟨by rw [HB.out,HNO.out k hlt (by rw [HK.out];unfold blankB;exact decide_eq_false hb)]⟩
    have q1:((b_at s k:Int) != 32)=true:=by rw [bne_iff_ne];omega
    have q2:((b_at s k:Int) != 9)=true:=by rw [bne_iff_ne];omega
    have q3:((b_at s k:Int) != 10)=true:=by rw [bne_iff_ne];omega
    have q4:((b_at s k:Int) != 13)=true:=by rw [bne_iff_ne];omega
    clear HK HNX hb
    generalize b_at s k=x at *
    go_wp2
    go_ret
    exact⟨ret_bool HRF.out.symm,rfl⟩
  ·obtain rfl:k=s.size:=by omega
   have HRT:Box (r=true):=⟨by rw [HB.out];exact HAI.out HN.out⟩
   go_wp2
   go_ret
   exact⟨ret_bool HRT.out.symm,rfl⟩
end Go.Proofs.YtnmnpnofdgdigaaGreatDoor
end
section
namespace Go.Proofs.YtnmnpnofdgdigaaGreatDoor
open Go.RowKit
set_option linter.unusedSimpArgs false
set_option linter.unusedVariables false
theorem size_attrs (W:World):(sizeOf (Tryz.prog.elem 34)).run Tryz.prog W=.ok 3 W:=by kernel_rfl
theorem front_attrs (A:Option Addr) (m c K:Nat) (hK:K≤m) (hc:m≤c):∃A',(∀W,(Instr.slice 34 (.slice A m c) none (some (.int .i64 (K:Int))) none).run Tryz.prog W=.ok (.slice A' K c) W)∧
  ∀W B (l:List AttrL),l.length=m→RdA W B A l→RdA W B A' (l.take K):=by
 refine⟨if c=0 then A else A.map (·.add (0*3)),fun W=>?_,fun W B l hl h=>?_⟩
 ·rw [run_slice_h W 34 A m c (by kernel_rfl) .i64 K (by omega) (by omega),size_attrs]
  rfl
 ·intro h0
  rw [List.length_take] at h0
  obtain⟨b,off,rfl,hb,hcell⟩:=h (by omega)
  rw [if_neg (by omega)]
  refine⟨b,off,by simp [Addr.add],hb,fun i a hi=>hcell i a ?_⟩
  rw [List.getElem?_take] at hi
  split at hi
  ·exact hi
  ·cases hi
theorem cell_lt {w:World} {b o:Nat} {v:Value} (h:w.cell? ⟨b,o,none⟩=some v):b < w.heap.size:=World.block_lt_of_cell? w _ h
set_option maxHeartbeats 1000000 in
theorem attrs1_any (a b:AttrL) (B:Nat) (w:World) (c0:w.cell? ⟨B,0,none⟩=some (.string a.space)) (c1:w.cell? ⟨B,1,none⟩=some (.string a.name)) :
  Calls Tryz.prog 184 #[encA b,.pointer (some ⟨B,0,none⟩)] w fun e w'=>e=.returned (.bool (dupA a b))∧Below w.heap.size w w':=by
 have hB:=cell_lt c0
 have hne:B≠w.heap.size:=by omega
 have hX:=Lib.hid ((Below.refl w.heap.size w).alloc (Nat.le_refl _) (.cells #[.string b.space,.string b.name,.string b.value] 75))
 have HD:Box (dupA a b=(eqS a.space b.space && eqS a.name b.name)):=⟨rfl⟩
 unfold eqS at HD
 generalize dupA a b=r at *
 cases hq:a.space.toList == b.space.toList with
 | false=>
  rw [hq] at HD
  unfold encA
  go_enter Tryz.func184,Tryz.ntmps184
  go_wp2
  go_ret
  exact⟨ret_bool (by rw [HD.out];rfl),hX.out⟩
 | true=>
  rw [hq] at HD
  unfold encA
  go_enter Tryz.func184,Tryz.ntmps184
  go_wp2
  go_ret
  exact⟨ret_bool (by rw [HD.out];rfl),hX.out⟩
end Go.Proofs.YtnmnpnofdgdigaaGreatDoor
end
section
namespace Go.Proofs.YtnmnpnofdgdigaaGreatDoor
open Go.RowKit
set_option linter.unusedSimpArgs false
set_option linter.unusedVariables false
theorem scut_any (s:ByteArray) (c:UInt8) (w:World) (hs:s.size≤1000000000):Calls Tryz.prog 166 #[.string s,.string ⟨#[c]⟩] w (CutPost s (c.toNat:Int) w):=by
 have H:=Lib.hid (cut_any s c w hs)
 go_enter Tryz.func166,Tryz.ntmps166
 go_wp2_with fail
 refine H.out.mono ?_
 rintro e w1 ⟨rfl,hb⟩
 have X:=Lib.hid hb
 clear hb
 go_wp2
 go_ret3
 exact⟨rfl,X.out⟩
theorem cut_sz (s:ByteArray) (c:Int):(cutI s c).1.size≤s.size∧(cutI s c).2.1.size≤s.size:=by
 have h0:(⟨#[]⟩:ByteArray).size=0:=rfl
 unfold cutI
 cases h:fstL (numsOf s) c <;> simp only [h0,ByteArray.size_extract] <;> omega
theorem full_cut (s:ByteArray):fullI s=(if (cutI s 58).2.2 then nameI (cutI s 58).1 && nameI (cutI s 58).2.1 else nameI s):=by
 unfold fullI cutI
 cases h:fstL (numsOf s) 58 <;> simp
theorem full_any (s:ByteArray) (w:World) (hs:s.size≤1000000000):Calls Tryz.prog 143 #[.string s] w fun e w'=>e=.returned (.bool (fullI s))∧Below w.heap.size w w':=by
 have H:=Lib.hid (scut_any s 58 w hs)
 have hz:=cut_sz s 58
 have HF:=Box.mk (full_cut s)
 have H1:=Lib.hid (fun W=>name_any (cutI s 58).1 W (by omega))
 have H2:=Lib.hid (fun W=>name_any (cutI s 58).2.1 W (by omega))
 have H3:=Lib.hid (fun W=>name_any s W hs)
 rw [show(((58:UInt8).toNat:Nat):Int)=58 from rfl] at H
 unfold CutPost at H
 clear hz
 generalize cutI s 58=cc at *
 obtain⟨a,b,is⟩:=cc
 dsimp only at H HF H1 H2
 generalize fullI s=r at *
 generalize nameI s=n0 at *
 generalize nameI a=n1 at *
 generalize nameI b=n2 at *
 cases is
 ·go_enter Tryz.func143,Tryz.ntmps143
  go_wp2_with fail
  refine H.out.mono ?_
  rintro e w1 ⟨rfl,hb⟩
  have X:=Lib.hid hb
  clear hb
  cases n0
  ·go_wp2_with fail
   refine(H3.out _).mono ?_
   rintro e w2 ⟨rfl,rfl⟩
   go_wp2
   go_ret
   exact⟨ret_bool (by rw [HF.out];rfl),X.out⟩
  ·go_wp2_with fail
   refine(H3.out _).mono ?_
   rintro e w2 ⟨rfl,rfl⟩
   go_wp2
   go_ret
   exact⟨ret_bool (by rw [HF.out];rfl),X.out⟩
 ·go_enter Tryz.func143,Tryz.ntmps143
  go_wp2_with fail
  refine H.out.mono ?_
  rintro e w1 ⟨rfl,hb⟩
  have X:=Lib.hid hb
  clear hb
  cases n1
  ·go_wp2_with fail
   refine(H1.out _).mono ?_
   rintro e w2 ⟨rfl,rfl⟩
   go_wp2
   go_ret
   exact⟨ret_bool (by rw [HF.out];rfl),X.out⟩
  ·go_wp2_with fail
   refine(H1.out _).mono ?_
   rintro e w2 ⟨rfl,rfl⟩
   go_wp2_with fail
   refine(H2.out _).mono ?_
   rintro e w2 ⟨rfl,rfl⟩
   go_wp2
   go_ret
   exact⟨ret_bool (by rw [HF.out];cases n2 <;> rfl),X.out⟩
def partsI (s:ByteArray):ByteArray×ByteArray×Bool:=match fstL (numsOf s) 58 with
 | none=>(⟨#[]⟩,s,false)
 | some i=>(s.extract 0 i,s.extract (i+1) s.size,true)
theorem parts_full (s:ByteArray):fullI s=(nameI (partsI s).2.1 && (!(partsI s).2.2 || nameI (partsI s).1)):=by
 unfold fullI partsI
 cases h:fstL (numsOf s) 58 <;> simp [Bool.and_comm]
theorem parts_sz (s:ByteArray):(partsI s).1.size≤s.size∧(partsI s).2.1.size≤s.size:=by
 have h0:(⟨#[]⟩:ByteArray).size=0:=rfl
 unfold partsI
 cases h:fstL (numsOf s) 58 <;> simp only [h0,ByteArray.size_extract] <;> omega
def noneTo (s:ByteArray) (k:Nat):Prop:=∀j:Nat,j < k→(numsOf s).getD j 0≠58
theorem fst_at (s:ByteArray) (k:Nat) (h:k < s.size) (hn:noneTo s k) (hx:(numsOf s).getD k 0=58):fstL (numsOf s) 58=some k:=by
 refine fstL_is ?_ ?_
 ·rw [List.getD_eq_getElem?_getD] at hx
  have hl:k < (numsOf s).length:=by rw [numsOf_length];exact h
  rw [List.getElem?_eq_getElem hl] at hx ⊢
  simpa using hx
 ·intro j x hj hx e
  refine hn j hj ?_
  rw [List.getD_eq_getElem?_getD,hx]
  simpa using e
theorem fst_no (s:ByteArray) (hn:noneTo s s.size):fstL (numsOf s) 58=none:=by
 refine fstL_not fun j x hx e=>?_
 have hl:=(List.getElem?_eq_some_iff.1 hx).1
 rw [numsOf_length] at hl
 refine hn j hl ?_
 rw [List.getD_eq_getElem?_getD,hx]
 simpa using e
set_option maxHeartbeats 1000000 in
set_option maxRecDepth 10000 in
theorem parts_any (s:ByteArray) (w:World) (hs:s.size≤1000000000):Calls Tryz.prog 211 #[.string s] w fun e w'=>e=.returned (.tuple #[.string (partsI s).1,.string (partsI s).2.1,.bool (partsI s).2.2])∧Below w.heap.size w w':=by
 go_enter Tryz.func211,Tryz.ntmps211
 go_wp2
 go_loop [5] (fun i=>∃k:Nat,k≤s.size∧noneTo s k∧i=.int .i64 k) (fun i=>s.size - (intOf i).toNat)
 case atStart=>exact⟨0,Nat.zero_le _,fun j hj=>absurd hj (by omega),rfl⟩
 case round=>
  obtain⟨k,hk,hn,rfl⟩:=hrel
  by_cases hlt:k < s.size
  ·have hx:=at_eq s k hlt
   have hxn:=nums_at s k hlt
   have hxl:b_at s k < 256:=b_lt s k
   have HN:=Box.mk hn
   clear hn
   by_cases h58:b_at s k=58
   ·have HC:Box (partsI s=(s.extract 0 k,s.extract (k+1) s.size,true)):=⟨by unfold partsI;rw [fst_at s k hlt HN.out (by rw [hxn,h58];rfl)]⟩
    rw [h58] at hx
    have hii:(k:Int)≤(s.size:Int):=by omega
    have hi1:(k:Int)+1≤(s.size:Int):=by omega
    have hf1:∀W,(Instr.slice 9 (.string s) none (some (.int .i64 (k:Int))) none).run Tryz.prog W=.ok (.string (s.extract 0 k)) W:=fun W=>
     run_slice_string_h (P:=Tryz.prog) (w:=W) (t:=9) (s:=s) Tryz.underlying9 .i64 (k:Int) (by omega) (by omega)
    have hf2:∀W,(Instr.slice 9 (.string s) (some (.int .i64 ((k:Int)+1))) none none).run Tryz.prog W=.ok (.string (s.extract (k+1) s.size)) W:=fun W=>by
     have h1:=run_slice_string_l (P:=Tryz.prog) (w:=W) (t:=9) (s:=s) Tryz.underlying9 .i64 ((k:Int)+1) (by omega) (by omega)
     rwa [show((k:Int)+1).toNat=k+1 by omega] at h1
    clear hxn h58 hxl HN
    go_wp2_with fail
    refine wp_region_typed rfl (by kernel_rfl) (by kernel_rfl) ?_
    repeat (first|refine tw_skip (wd_no rfl rfl rfl) ?_|refine tw_mv (.inl rfl) rfl (wdA rfl) ?_|refine tw_mv (.inr rfl) rfl (wdA rfl) ?_|refine tw_pickL rfl rfl rfl (wdA rfl) ?_|refine tw_op1 _ rfl rfl (wdA rfl) (fun ρ W hW h1=>by simp only [execOp,h1];go_simp;first|done|rfl) ?_|refine tw_op2 _ rfl rfl rfl (wdA rfl) (fun ρ W hW h1 h2=>by simp only [execOp,h1,h2];go_simp;first|done|rfl) ?_)
    refine tw_op2 (x:=.tmp 16) (y:=.tmp 17) (c:=.string s) (e:=.int .i64 (k:Int)) (.string (s.extract 0 k)) rfl rfl rfl (wdA rfl) (fun ρ W hW h1 h2=>by simp only [execOp,h1,h2,Option.map];go_simp) ?_
    refine tw_mv (.inl rfl) rfl (wdA rfl) ?_
    refine tw_mv (.inl rfl) rfl (wdA rfl) ?_
    refine tw_op2 (x:=.tmp 20) (y:=.const (.int .i64 1)) (c:=.int .i64 (k:Int)) (e:=.int .i64 1) (.int .i64 ((k:Int)+1)) rfl rfl rfl (wdA rfl) (fun ρ W hW h1 h2=>by simp only [execOp,h1,h2];go_simp;rw [IntKind.wrap_i64];omega) ?_
    refine tw_op2 (x:=.tmp 19) (y:=.tmp 21) (c:=.string s) (e:=.int .i64 ((k:Int)+1)) (.string (s.extract (k+1) s.size)) rfl rfl rfl (wdA rfl) (fun ρ W hW h1 h2=>by simp only [execOp,h1,h2,Option.map];go_simp) ?_
    repeat (first|refine tw_skip (wd_no rfl rfl rfl) ?_|refine tw_mv (.inl rfl) rfl (wdA rfl) ?_|refine tw_mv (.inr rfl) rfl (wdA rfl) ?_|refine tw_pickL rfl rfl rfl (wdA rfl) ?_|refine tw_op1 _ rfl rfl (wdA rfl) (fun ρ W hW h1=>by simp only [execOp,h1];go_simp;first|done|rfl) ?_|refine tw_op2 _ rfl rfl rfl (wdA rfl) (fun ρ W hW h1 h2=>by simp only [execOp,h1,h2];go_simp;first|done|rfl) ?_)
    dsimp only [wpT,List.reverse,List.reverseAux,FinT]
    intro W hW _
    simp only [Act.put,List.setIfInBounds_toArray,List.set_cons_zero,List.set_cons_succ]
    have XW:=Lib.hid ((Below.refl w.heap.size w).drew.trans (Below.mono hW (Nat.le_refl _)))
    clear hW
    go_wp2
    go_ret3
    exact⟨by rw [HC.out];rfl,XW.out⟩
   ·have HN2:Box (noneTo s (k+1)):=⟨fun j hj=>by
     rcases Nat.lt_or_ge j k with h1|h1
     ·exact HN.out j h1
     ·obtain rfl:j=k:=by omega
      rw [hxn];omega⟩
    have hq:((b_at s k:Int) == 58)=false:=by rw [beq_eq_false_iff_ne];omega
    clear hxn HN
    generalize b_at s k=x at *
    go_wp2
    go_round
    case rel=>exact⟨k+1,by omega,HN2.out,by go_num⟩
    case measure=>simp [intOf];omega
  ·obtain rfl:k=s.size:=by omega
   have HC:Box (partsI s=(⟨#[]⟩,s,false)):=⟨by unfold partsI;rw [fst_no s hn]⟩
   clear hn
   go_wp2
   go_ret3
   exact⟨by rw [HC.out];rfl,Below.refl _ _⟩
theorem reffull_any (s:ByteArray) (w:World) (hs:s.size≤1000000000):Calls Tryz.prog 189 #[.string s] w fun e w'=>e=.returned (.bool (fullI s))∧Below w.heap.size w w':=by
 have H:=Lib.hid (parts_any s w hs)
 have hz:=parts_sz s
 have HF:=Box.mk (parts_full s)
 have H1:=Lib.hid (fun W=>refname_any (partsI s).1 W (by omega))
 have H2:=Lib.hid (fun W=>refname_any (partsI s).2.1 W (by omega))
 clear hz
 generalize partsI s=cc at *
 obtain⟨a,b,is⟩:=cc
 dsimp only at H HF H1 H2
 generalize fullI s=r at *
 generalize nameI a=n1 at *
 generalize nameI b=n2 at *
 cases n2
 ·go_enter Tryz.func189,Tryz.ntmps189
  go_wp2_with fail
  refine H.out.mono ?_
  rintro e w1 ⟨rfl,hb⟩
  have X:=Lib.hid hb
  clear hb
  go_wp2_with fail
  refine(H2.out _).mono ?_
  rintro e w2 ⟨rfl,rfl⟩
  go_wp2
  go_ret
  exact⟨ret_bool (by rw [HF.out];rfl),X.out⟩
 ·cases is
  ·go_enter Tryz.func189,Tryz.ntmps189
   go_wp2_with fail
   refine H.out.mono ?_
   rintro e w1 ⟨rfl,hb⟩
   have X:=Lib.hid hb
   clear hb
   go_wp2_with fail
   refine(H2.out _).mono ?_
   rintro e w2 ⟨rfl,rfl⟩
   go_wp2
   go_ret
   exact⟨ret_bool (by rw [HF.out];rfl),X.out⟩
  ·go_enter Tryz.func189,Tryz.ntmps189
   go_wp2_with fail
   refine H.out.mono ?_
   rintro e w1 ⟨rfl,hb⟩
   have X:=Lib.hid hb
   clear hb
   go_wp2_with fail
   refine(H2.out _).mono ?_
   rintro e w2 ⟨rfl,rfl⟩
   go_wp2_with fail
   refine(H1.out _).mono ?_
   rintro e w2 ⟨rfl,rfl⟩
   go_wp2
   go_ret
   exact⟨ret_bool (by rw [HF.out];rfl),X.out⟩
end Go.Proofs.YtnmnpnofdgdigaaGreatDoor
end
section
namespace Go.Proofs.YtnmnpnofdgdigaaGreatDoor
open Go.RowKit
set_option linter.unusedSimpArgs false
set_option linter.unusedVariables false
theorem sz_get {l:List AttrL} {M:Nat} (h:∀a∈l,SzA M a) {k:Nat} {x:AttrL} (hx:l[k]? = some x):SzA M x:=h x (List.mem_of_getElem? hx)
set_option maxHeartbeats 4000000 in
set_option maxRecDepth 10000 in
theorem attrs_any (A:Option Addr) (c:Nat) (l:List AttrL) (w:World) (hr:RdA w w.heap.size A l) (hc:l.length≤c) (hn:l.length≤1000000000) (hz:∀a∈l,SzA 1000000000 a) :
  Calls Tryz.prog 144 #[.slice A l.length c] w fun e w'=>e=.returned (.bool (attrsI l))∧Below w.heap.size w w':=by
 have HR:=Lib.hid hr
 have HZ:=Lib.hid hz
 have HI:Box (attrsI l=(attrsT l l.length && decide (l.length≤16))):=⟨rfl⟩
 clear hr hz
 generalize attrsI l=ri at *
 go_enter Tryz.func144,Tryz.ntmps144
 go_wp2
 go_loopw [3,4,5,8] (fun _ _ _ s8 wr=>∃k:Nat,k≤l.length∧s8=.int .i64 k∧Hid (Below w.heap.size w wr)∧Hid (attrsT l k=true)) (fun _ _ _ s8 _=>l.length - (intOf s8).toNat)
 case atStart=>exact⟨0,Nat.zero_le _,rfl,Lib.hid (Below.refl _ _),rfl⟩
 case round=>
  obtain⟨k,hk,rfl,HB,HN⟩:=hrel
  by_cases hlt:k < l.length
  ·obtain⟨x,hx⟩:∃x,l[k]? = some x:=⟨_,List.getElem?_eq_getElem hlt⟩
   have HX:=Lib.hid hx
   obtain⟨b,off,rfl,hb,hcc⟩:=HR.out (by omega)
   obtain⟨c0,c1,c2⟩:=(hcc k x hx).keep (w':=wr) hb (fun q hq=>HB.out.cell hq)
   obtain⟨z0,z1,z2⟩:=sz_get HZ.out hx
   have hsz:=HB.out.size
   obtain⟨A',hA',hAr⟩:=front_attrs (some ⟨b,off,none⟩) l.length c k hk hc
   have eg:=enters_of (P:=Tryz.prog) Tryz.func184 (by kernel_rfl) rfl
   have hlk:(l.take k).length=k:=by rw [List.length_take];omega
   have HX0:Hid (Below w.heap.size w (wr.alloc (.cells #[.string x.space,.string x.name,.string x.value] 75))):=HB.out.alloc hsz _
   obtain⟨W0,hW0⟩:∃W0,W0=wr.alloc (.cells #[.string x.space,.string x.name,.string x.value] 75):=⟨_,rfl⟩
   have hs0:wr.heap.size < W0.heap.size:=by rw [hW0];simp
   have HD0:Hid (∀W,Below W0.heap.size W0 W→W.cell? ⟨wr.heap.size,0,none⟩=some (.string x.space)):=Lib.hid (fun W hW=>(hW.cell hs0).trans (by rw [hW0];simp))
   have HD1:Hid (∀W,Below W0.heap.size W0 W→W.cell? ⟨wr.heap.size,1,none⟩=some (.string x.name)):=Lib.hid (fun W hW=>(hW.cell hs0).trans (by rw [hW0];simp))
   have HD2:Hid (∀W,Below W0.heap.size W0 W→W.cell? ⟨wr.heap.size,2,none⟩=some (.string x.value)):=Lib.hid (fun W hW=>(hW.cell hs0).trans (by rw [hW0];simp))
   rw [←hW0] at HX0
   have hcall:=hasA_any 184 #[.pointer (some ⟨wr.heap.size,0,none⟩)] A' c (l.take k) (dupA x) W0 (((hAr w w.heap.size l rfl HR.out).below HX0.out (Nat.le_refl _)).more HX0.out.size) (by omega) eg
    (fun W i y hW hy=>(attrs1_any x y wr.heap.size W (HD0.out W hW) (HD1.out W hW)).mono fun e w' h=>⟨h.1,hW.trans (h.2.mono hW.size)⟩)
   rw [hlk] at hcall
   have HC:=Lib.hid hcall
   have HT:Box (attrsT l (k+1)=(!(l.take k).any (dupA x) && (fullI x.name && decide (textErr x.value=0) && decide (textErr x.space=0)))):=⟨by rw [attrsT_succ l k x hx,HN.out];rfl⟩
   have HNO:=Lib.hid (attrsT_no l (k+1) l.length hlt)
   have H1:=Lib.hid (fun W=>full_any x.name W z1)
   have H2:=Lib.hid (fun W=>check5_any x.value W z2)
   have H3:=Lib.hid (fun W=>check5_any x.space W z0)
   have hWE:=hW0
   clear hx hcc hAr hcall hlk eg
   generalize (l.take k).any (dupA x)=q0 at *
   generalize fullI x.name=q1 at *
   generalize textErr x.value=t2 at *
   generalize textErr x.space=t3 at *
   cases q0 with
   | true=>
    go_wp2_with fail
    rw [←hWE]
    refine HC.out.mono ?_
    rintro e w1 ⟨rfl,hb1⟩
    have X1:=Lib.hid (HX0.out.trans (hb1.mono HX0.out.size))
    clear hb1 hWE hW0
    go_wp2
    go_ret
    exact⟨ret_bool (by rw [HI.out,HNO.out (by rw [HT.out];rfl)];rfl),X1.out⟩
   | false=>
    cases q1 with
    | false=>
     go_wp2_with fail
     rw [←hWE]
     refine HC.out.mono ?_
     rintro e w1 ⟨rfl,hb1⟩
     clear hWE hW0
     have X1:Hid (Below W0.heap.size W0 w1):=Lib.hid (ext_step (Below.refl W0.heap.size W0) (by first|exact e0A|exact e1A|exact e2A|exact e3A|exact e4A|exact e5A) hb1 (Below.refl W0.heap.size W0).size)
     clear hb1
     try clear d0 d1 d2
     have d0:=HD0.out _ X1.out
     have d1:=HD1.out _ X1.out
     have d2:=HD2.out _ X1.out
     go_wp2_with fail
     refine(H1.out _).mono ?_
     rintro e w2 ⟨rfl,hb2⟩
     have X2:Hid (Below W0.heap.size W0 w2):=Lib.hid (ext_step (X1.out) (by first|exact e0A|exact e1A|exact e2A|exact e3A|exact e4A|exact e5A) hb2 (X1.out).size)
     clear hb2
     try clear d0 d1 d2
     have d0:=HD0.out _ X2.out
     have d1:=HD1.out _ X2.out
     have d2:=HD2.out _ X2.out
     go_wp2
     go_ret
     exact⟨ret_bool (by rw [HI.out,HNO.out (by rw [HT.out];rfl)];rfl),HX0.out.trans (X2.out.mono HX0.out.size)⟩
    | true=>
     by_cases e2:t2=0
     ·subst e2
      by_cases e3:t3=0
      ·subst e3
       go_wp2_with fail
       rw [←hWE]
       refine HC.out.mono ?_
       rintro e w1 ⟨rfl,hb1⟩
       clear hWE hW0
       have X1:Hid (Below W0.heap.size W0 w1):=Lib.hid (ext_step (Below.refl W0.heap.size W0) (by first|exact e0A|exact e1A|exact e2A|exact e3A|exact e4A|exact e5A) hb1 (Below.refl W0.heap.size W0).size)
       clear hb1
       try clear d0 d1 d2
       have d0:=HD0.out _ X1.out
       have d1:=HD1.out _ X1.out
       have d2:=HD2.out _ X1.out
       go_wp2_with fail
       refine(H1.out _).mono ?_
       rintro e w2 ⟨rfl,hb2⟩
       have X2:Hid (Below W0.heap.size W0 w2):=Lib.hid (ext_step (X1.out) (by first|exact e0A|exact e1A|exact e2A|exact e3A|exact e4A|exact e5A) hb2 (X1.out).size)
       clear hb2
       try clear d0 d1 d2
       have d0:=HD0.out _ X2.out
       have d1:=HD1.out _ X2.out
       have d2:=HD2.out _ X2.out
       go_wp2_with fail
       refine(H2.out _).mono ?_
       rintro e w3 ⟨rfl,hb3⟩
       have X3:Hid (Below W0.heap.size W0 w3):=Lib.hid (ext_step (X2.out) (by first|exact e0A|exact e1A|exact e2A|exact e3A|exact e4A|exact e5A) hb3 (X2.out).size)
       clear hb3
       try clear d0 d1 d2
       have d0:=HD0.out _ X3.out
       have d1:=HD1.out _ X3.out
       have d2:=HD2.out _ X3.out
       go_wp2_with fail
       refine(H3.out _).mono ?_
       rintro e w4 ⟨rfl,hb4⟩
       have X4:Hid (Below W0.heap.size W0 w4):=Lib.hid (ext_step (X3.out) (by first|exact e0A|exact e1A|exact e2A|exact e3A|exact e4A|exact e5A) hb4 (X3.out).size)
       clear hb4
       go_wp2
       go_roundw
       case rel=>exact⟨k+1,by omega,by go_num,Lib.hid (HX0.out.trans (X4.out.mono HX0.out.size)),HT.out⟩
       case measure=>simp [intOf];omega
      ·have hq3:(t3 != 0)=true:=by simpa using e3
       have HQ3:Box (decide (t3=0)=false):=⟨decide_eq_false e3⟩
       clear e3
       go_wp2_with fail
       rw [←hWE]
       refine HC.out.mono ?_
       rintro e w1 ⟨rfl,hb1⟩
       clear hWE hW0
       have X1:Hid (Below W0.heap.size W0 w1):=Lib.hid (ext_step (Below.refl W0.heap.size W0) (by first|exact e0A|exact e1A|exact e2A|exact e3A|exact e4A|exact e5A) hb1 (Below.refl W0.heap.size W0).size)
       clear hb1
       try clear d0 d1 d2
       have d0:=HD0.out _ X1.out
       have d1:=HD1.out _ X1.out
       have d2:=HD2.out _ X1.out
       go_wp2_with fail
       refine(H1.out _).mono ?_
       rintro e w2 ⟨rfl,hb2⟩
       have X2:Hid (Below W0.heap.size W0 w2):=Lib.hid (ext_step (X1.out) (by first|exact e0A|exact e1A|exact e2A|exact e3A|exact e4A|exact e5A) hb2 (X1.out).size)
       clear hb2
       try clear d0 d1 d2
       have d0:=HD0.out _ X2.out
       have d1:=HD1.out _ X2.out
       have d2:=HD2.out _ X2.out
       go_wp2_with fail
       refine(H2.out _).mono ?_
       rintro e w3 ⟨rfl,hb3⟩
       have X3:Hid (Below W0.heap.size W0 w3):=Lib.hid (ext_step (X2.out) (by first|exact e0A|exact e1A|exact e2A|exact e3A|exact e4A|exact e5A) hb3 (X2.out).size)
       clear hb3
       try clear d0 d1 d2
       have d0:=HD0.out _ X3.out
       have d1:=HD1.out _ X3.out
       have d2:=HD2.out _ X3.out
       go_wp2_with fail
       refine(H3.out _).mono ?_
       rintro e w4 ⟨rfl,hb4⟩
       have X4:Hid (Below W0.heap.size W0 w4):=Lib.hid (ext_step (X3.out) (by first|exact e0A|exact e1A|exact e2A|exact e3A|exact e4A|exact e5A) hb4 (X3.out).size)
       clear hb4
       go_wp2
       go_ret
       exact⟨ret_bool (by rw [HI.out,HNO.out (by rw [HT.out,HQ3.out];rfl)];rfl),HX0.out.trans (X4.out.mono HX0.out.size)⟩
     ·have hq2:(t2 != 0)=true:=by simpa using e2
      have HQ2:Box (decide (t2=0)=false):=⟨decide_eq_false e2⟩
      clear e2
      go_wp2_with fail
      rw [←hWE]
      refine HC.out.mono ?_
      rintro e w1 ⟨rfl,hb1⟩
      clear hWE hW0
      have X1:Hid (Below W0.heap.size W0 w1):=Lib.hid (ext_step (Below.refl W0.heap.size W0) (by first|exact e0A|exact e1A|exact e2A|exact e3A|exact e4A|exact e5A) hb1 (Below.refl W0.heap.size W0).size)
      clear hb1
      try clear d0 d1 d2
      have d0:=HD0.out _ X1.out
      have d1:=HD1.out _ X1.out
      have d2:=HD2.out _ X1.out
      go_wp2_with fail
      refine(H1.out _).mono ?_
      rintro e w2 ⟨rfl,hb2⟩
      have X2:Hid (Below W0.heap.size W0 w2):=Lib.hid (ext_step (X1.out) (by first|exact e0A|exact e1A|exact e2A|exact e3A|exact e4A|exact e5A) hb2 (X1.out).size)
      clear hb2
      try clear d0 d1 d2
      have d0:=HD0.out _ X2.out
      have d1:=HD1.out _ X2.out
      have d2:=HD2.out _ X2.out
      go_wp2_with fail
      refine(H2.out _).mono ?_
      rintro e w3 ⟨rfl,hb3⟩
      have X3:Hid (Below W0.heap.size W0 w3):=Lib.hid (ext_step (X2.out) (by first|exact e0A|exact e1A|exact e2A|exact e3A|exact e4A|exact e5A) hb3 (X2.out).size)
      clear hb3
      go_wp2
      go_ret
      exact⟨ret_bool (by rw [HI.out,HNO.out (by rw [HT.out,HQ2.out];rfl)];rfl),HX0.out.trans (X3.out.mono HX0.out.size)⟩
  ·obtain rfl:k=l.length:=by omega
   have HT:=Box.mk HN.out
   have HB2:=HB
   by_cases h16:l.length≤16
   ·have h16':(l.length:Int)≤16:=by omega
    go_wp2
    go_ret
    exact⟨ret_bool (by rw [HI.out,HT.out,decide_eq_true h16];rfl),HB2.out⟩
   ·have h16':¬(l.length:Int)≤16:=by omega
    go_wp2
    go_ret
    exact⟨ret_bool (by rw [HI.out,HT.out,decide_eq_false h16];rfl),HB2.out⟩
end Go.Proofs.YtnmnpnofdgdigaaGreatDoor
end
