/- Part 9 of a proof laid in parts, one behind the other; no condition of its own. -/
import Derived.Test.YtnmnpnofdgdigaaGreatDoorZ08
import Derived.Test.YtnmnpnofdgdigaaGreatDoorZ05
import Derived.Test.YtnmnpnofdgdigaaGreatDoorZ04
set_option linter.all false
section
namespace Go.Proofs.YtnmnpnofdgdigaaGreatDoor
open Go.RowKit
set_option linter.unusedSimpArgs false
set_option linter.unusedVariables false
set_option maxRecDepth 10000 in
theorem reflower_any (s:ByteArray) (w:World) (hs:s.size≤1000000000):Calls Tryz.prog 187 #[.string s] w fun e w'=>e=.returned (.string (lowI s))∧Below w.heap.size w w':=by
 have HX:Box (lowI s=strOfNums ((numsOf s).map low1)):=⟨rfl⟩
 have HN:=Lib.hid (numsOf_length s)
 generalize lowI s=r at *
 go_enter Tryz.func187,Tryz.ntmps187
 go_wp2
 go_loopw [3,4,5] (fun s3 s4 _ wr=>∃k:Nat,k≤s.size∧s4=.int .i64 k∧Hid (wr.ownsRow w.heap.size 5 1 s3 k (ints .u8 (((numsOf s).map low1).take k)))∧Hid (Below w.heap.size w wr)) (fun _ s4 _ _=>s.size - (intOf s4).toNat)
 case atStart=>exact⟨0,Nat.zero_le _,rfl,World.ownsRow_nil _ _ _ _,Lib.hid (Below.refl _ _)⟩
 case round=>
  obtain⟨k,hk,rfl,HO,HB⟩:=hrel
  obtain⟨A3,c3,rfl⟩:=own_form HO.out
  by_cases hlt:k < s.size
  ·have hx:=at_eq s k hlt
   have hxl:b_at s k < 256:=b_lt s k
   have HT:Hid (((numsOf s).map low1).take (k+1)=((numsOf s).map low1).take k++[low1 (b_at s k:Int)]):=by
    show _=_
    have h1:(numsOf s)[k]? = some (b_at s k:Int):=by
     have:=numsOf_get s k hlt
     rw [this,hx]
    rw [List.take_add_one,List.getElem?_map,h1]
    rfl
   generalize b_at s k=x at *
   have hsz:=HB.out.size
   by_cases hup:65≤(x:Int)∧(x:Int)≤90
   ·obtain⟨hu1,hu2⟩:=hup
    have HL:Box (low1 (x:Int)=(x:Int)+32):=⟨if_pos ⟨hu1,hu2⟩⟩
    rw [HL.out] at HT
    have HRN:Hid (Rd (wr.alloc (.cells #[.int .u8 ((x:Int)+32)] 5)) (wr.heap.size+1) 1 (some ⟨wr.heap.size,0,none⟩) 1 (ints .u8 [(x:Int)+32])):=rd_int1 wr _ _ _
    have HOA:=Lib.hid (HO.out.alloc (.cells #[.int .u8 ((x:Int)+32)] 5))
    clear HX HL
    go_wp2_with (at_builtin;refine app_u8s rfl _ _ rfl w.heap.size _ k _ rfl HOA.out _ _ _ _ _ rfl HRN.out (by omega) (by simp;omega) ?_)
    intro v4 w4 hown4 hg4 hbk
    have HX4:Hid (Below w.heap.size w w4):=(HB.out.alloc hsz _).grown hg4 (by simp;omega) (fun q hq=>(HO.out.lt q hq).1)
    have HO4:=Lib.hid hown4
    clear hown4 hg4 hbk
    go_wp2
    go_roundw
    case rel=>exact⟨k+1,by omega,by go_num,by rw [HT.out];exact HO4,HX4⟩
    case measure=>simp [intOf];omega
   ·have HL:Box (low1 (x:Int)=(x:Int)):=⟨if_neg hup⟩
    rw [HL.out] at HT
    have HRN:Hid (Rd (wr.alloc (.cells #[.int .u8 (x:Int)] 5)) (wr.heap.size+1) 1 (some ⟨wr.heap.size,0,none⟩) 1 (ints .u8 [(x:Int)])):=rd_int1 wr _ _ _
    have HOA:=Lib.hid (HO.out.alloc (.cells #[.int .u8 (x:Int)] 5))
    have hcase:(x:Int) < 65∨90 < (x:Int):=by omega
    clear hup HL
    rcases hcase with hc|hc
    all_goals
     go_wp2_with (at_builtin;refine app_u8s rfl _ _ rfl w.heap.size _ k _ rfl HOA.out _ _ _ _ _ rfl HRN.out (by omega) (by simp;omega) ?_)
     intro v4 w4 hown4 hg4 hbk
     have HX4:Hid (Below w.heap.size w w4):=(HB.out.alloc hsz _).grown hg4 (by simp;omega) (fun q hq=>(HO.out.lt q hq).1)
     have HO4:=Lib.hid hown4
     clear hown4 hg4 hbk
     go_wp2
     go_roundw
     case rel=>exact⟨k+1,by omega,by go_num,by rw [HT.out];exact HO4,HX4⟩
     case measure=>simp [intOf];omega
  ·obtain rfl:k=s.size:=by omega
   have hcv:=conv_rd (c:=c3) (Rd.of_own HO.out)
   have HE:Box (strOfNums (((numsOf s).map low1).take s.size)=r):=⟨by rw [HX.out,List.take_of_length_le (by rw [List.length_map,HN.out];exact Nat.le_refl _)]⟩
   rw [HE.out] at hcv
   go_wp2
   go_ret
   exact⟨rfl,HB.out⟩
def plainC (c:Int):Bool:=decide ((97≤c∧c≤122)∨(48≤c∧c≤57))
theorem plain_all:∀n:Fin 256,plainL.contains n.val.toUInt8=plainC (n.val:Int):=by decide +kernel
theorem loc_all:∀n:Fin 256,locL.contains n.val.toUInt8=(plainC (n.val:Int) || decide (n.val=46) || decide (n.val=45) || decide (n.val=95)):=by decide +kernel
theorem dom_all:∀n:Fin 256,domL.contains n.val.toUInt8=(plainC (n.val:Int) || decide (n.val=46) || decide (n.val=45)):=by decide +kernel
theorem at_u8 (s:ByteArray) (i:Nat):(b_at s i).toUInt8=s.get! i:=by unfold b_at;simp
theorem plain_at (s:ByteArray) (i:Nat):plainL.contains (s.get! i)=plainC (b_at s i:Int):=by
 have h:=plain_all ⟨b_at s i,b_lt s i⟩
 rwa [at_u8] at h
theorem loc_at (s:ByteArray) (i:Nat):locL.contains (s.get! i)=(plainC (b_at s i:Int) || decide (b_at s i=46) || decide (b_at s i=45) || decide (b_at s i=95)):=by
 have h:=loc_all ⟨b_at s i,b_lt s i⟩
 rwa [at_u8] at h
theorem dom_at (s:ByteArray) (i:Nat):domL.contains (s.get! i)=(plainC (b_at s i:Int) || decide (b_at s i=46) || decide (b_at s i=45)):=by
 have h:=dom_all ⟨b_at s i,b_lt s i⟩
 rwa [at_u8] at h
theorem setAll_iff (cs:List UInt8) (s:ByteArray):setAll cs s=true↔∀i,i < s.size→cs.contains (s.get! i)=true:=by
 refine⟨fun h i hi=>set_at h i hi,fun h=>?_⟩
 unfold setAll
 rw [List.all_eq_true]
 intro b hb
 obtain⟨i,hi,rfl⟩:=List.mem_iff_getElem.1 hb
 have h1:=h i hi
 have e:s.get! i=s.data.toList[i]:=by
  show s.data[i]! = _
  rw [getElem!_pos s.data i hi]
  rfl
 rwa [e] at h1
theorem setAll_no {cs:List UInt8} {s:ByteArray} {i:Nat} (hi:i < s.size) (h:cs.contains (s.get! i)=false):setAll cs s=false:=by
 cases hq:setAll cs s with
 | false=>rfl
 | true=>rw [set_at hq i hi] at h;cases h
theorem plain_any (c:Int) (w:World):Calls Tryz.prog 224 #[.int .u8 c] w fun e w'=>e=.returned (.bool (plainC c))∧w=w':=by
 have HX:Box (plainC c=decide ((97≤c∧c≤122)∨(48≤c∧c≤57))):=⟨rfl⟩
 generalize plainC c=r at *
 go_enter Tryz.func224,Tryz.ntmps224
 go_wp2
 all_goals
  go_ret
  exact⟨ret_bool (by rw [HX.out];first|rfl|decide|(rw [Bool.eq_iff_iff];simp only [Bool.and_eq_true,Bool.or_eq_true,Bool.not_eq_true',Bool.not_eq_true,decide_eq_true_eq,decide_eq_false_iff_not,beq_iff_eq,bne_iff_ne,beq_eq_false_iff_ne,bne_eq_false_iff_eq,Bool.false_eq_true,ne_eq,true_and,and_true,false_or,or_false,reduceCtorEq,false_iff,true_iff,iff_false,iff_true];omega)|(simp;done)|(simp;omega)),rfl⟩
theorem lenOK_iff (s:ByteArray):lenOK s=decide (1≤(s.size:Int)∧(s.size:Int)≤64):=by
 unfold lenOK isEmp
 rw [Bool.eq_iff_iff]
 simp only [Bool.and_eq_true,Bool.not_eq_true',decide_eq_false_iff_not,decide_eq_true_eq]
 omega
set_option maxHeartbeats 4000000 in
set_option maxRecDepth 10000 in
theorem reflocal_any (s:ByteArray) (w:World) (hs:s.size≤1000000000):Calls Tryz.prog 210 #[.string s] w fun e w'=>e=.returned (.bool (localI s))∧w=w':=by
 have HX:Box (localI s=(lenOK s && setAll locL s)):=⟨rfl⟩
 have HNO:=Lib.hid (fun i hi h=>setAll_no (cs:=locL) (s:=s) (i:=i) hi h)
 have HAT:=Lib.hid (fun i=>loc_at s i)
 have HLE:=Box.mk (lenOK_iff s)
 have HAI:=Lib.hid (setAll_iff locL s).2
 generalize localI s=r at *
 go_enter Tryz.func210,Tryz.ntmps210
 go_wp2
 go_loop [3] (fun s3=>∃k:Nat,k≤s.size∧s3=.int .i64 k∧Hid (∀i,i < k→locL.contains (s.get! i)=true)) (fun s3=>s.size - (intOf s3).toNat)
 case atStart=>exact⟨0,Nat.zero_le _,rfl,Lib.hid (fun i hi=>absurd hi (by omega))⟩
 case round=>
  obtain⟨k,hk,rfl,HN⟩:=hrel
  by_cases hlt:k < s.size
  ·have hx:=at_eq s k hlt
   have hxl:b_at s k < 256:=b_lt s k
   have HP:=Lib.hid (fun W=>plain_any (b_at s k:Int) W)
   have HK:=Box.mk (HAT.out k)
   have HNOK:Hid (locL.contains (s.get! k)=false→r=false):=Lib.hid (fun h=>by rw [HX.out,HNO.out k hlt h,Bool.and_false])
   have HNX:Hid (locL.contains (s.get! k)=true→∀i,i < k+1→locL.contains (s.get! i)=true):=Lib.hid (fun h i hi=>by
    rcases Nat.lt_or_ge i k with h1|h1
    ·exact HN.out i h1
    ·obtain rfl:i=k:=by omega
     exact h)
   generalize b_at s k=x at *
   generalize plainC (x:Int)=pc at *
   generalize locL.contains (s.get! k)=lc at *
   cases pc
   ·by_cases h1:x=46
    ·subst h1
     go_wp2_with fail
     refine(HP.out _).mono ?_
     rintro e w1 ⟨rfl,rfl⟩
     go_wp2
     go_round
     case rel=>exact⟨k+1,by omega,by go_num,HNX.out (by rw [HK.out];simp)⟩
     case measure=>simp [intOf];omega
    ·by_cases h2:x=45
     ·subst h2
      go_wp2_with fail
      refine(HP.out _).mono ?_
      rintro e w1 ⟨rfl,rfl⟩
      go_wp2
      go_round
      case rel=>exact⟨k+1,by omega,by go_num,HNX.out (by rw [HK.out];simp)⟩
      case measure=>simp [intOf];omega
     ·by_cases h3:x=95
      ·subst h3
       go_wp2_with fail
       refine(HP.out _).mono ?_
       rintro e w1 ⟨rfl,rfl⟩
       go_wp2
       go_round
       case rel=>exact⟨k+1,by omega,by go_num,HNX.out (by rw [HK.out];simp)⟩
       case measure=>simp [intOf];omega
      ·have q1:((x:Int) != 46)=true:=by rw [bne_iff_ne];omega
       have q2:((x:Int) != 45)=true:=by rw [bne_iff_ne];omega
       have q3:((x:Int) != 95)=true:=by rw [bne_iff_ne];omega
       have HRF:Box (r=false):=⟨HNOK.out (by rw [HK.out,decide_eq_false h1,decide_eq_false h2,decide_eq_false h3];rfl)⟩
       clear h1 h2 h3
       go_wp2_with fail
       refine(HP.out _).mono ?_
       rintro e w1 ⟨rfl,rfl⟩
       go_wp2
       go_ret
       exact⟨ret_bool HRF.out.symm,rfl⟩
   ·go_wp2_with fail
    refine(HP.out _).mono ?_
    rintro e w1 ⟨rfl,rfl⟩
    go_wp2
    go_round
    case rel=>exact⟨k+1,by omega,by go_num,HNX.out (by rw [HK.out];rfl)⟩
    case measure=>simp [intOf];omega
  ·obtain rfl:k=s.size:=by omega
   have HRX:Box (r=decide (1≤(s.size:Int)∧(s.size:Int)≤64)):=⟨by rw [HX.out,HAI.out HN.out,Bool.and_true,HLE.out]⟩
   clear HX HLE
   go_wp2
   all_goals
    go_ret
    exact⟨ret_bool (by rw [HRX.out];first|rfl|decide|(rw [Bool.eq_iff_iff];simp only [Bool.and_eq_true,Bool.or_eq_true,Bool.not_eq_true',Bool.not_eq_true,decide_eq_true_eq,decide_eq_false_iff_not,beq_iff_eq,bne_iff_ne,beq_eq_false_iff_ne,bne_eq_false_iff_eq,Bool.false_eq_true,ne_eq,true_and,and_true,false_or,or_false,reduceCtorEq,false_iff,true_iff,iff_false,iff_true];omega)|(simp;done)|(simp;omega)),rfl⟩
end Go.Proofs.YtnmnpnofdgdigaaGreatDoor
end
section
namespace Go.Proofs.YtnmnpnofdgdigaaGreatDoor
open Go.RowKit
set_option linter.unusedSimpArgs false
set_option linter.unusedVariables false
theorem dotsI_iff (s:ByteArray):dotsI s=true↔∀i,i < s.size→dotAt s i=false:=by
 unfold dotsI
 rw [dots_law,Bool.not_eq_true',List.any_eq_false]
 simp only [List.mem_range,Bool.not_eq_true]
theorem plain_ge {c:Int} (h:plainC c=true):48≤c:=by
 unfold plainC at h
 have:=of_decide_eq_true h
 omega
set_option maxHeartbeats 4000000 in
set_option maxRecDepth 10000 in
theorem refdomain_any (s:ByteArray) (w:World) (hs:s.size≤1000000000):Calls Tryz.prog 209 #[.string s] w fun e w'=>e=.returned (.bool (domI s))∧w=w':=by
 have HX:Box (domI s=(lenOK s && (setAll domL s && endsI s && dotsI s))):=⟨rfl⟩
 have hle:=lenOK_iff s
 have HE:Box (endsI s=(plainC (b_at s 0:Int) && plainC (b_at s (s.size - 1):Int))):=⟨by unfold endsI;rw [plain_at,plain_at]⟩
 have HAT:=Lib.hid (fun i=>dom_at s i)
 have HNO:=Lib.hid (fun i hi h=>setAll_no (cs:=domL) (s:=s) (i:=i) hi h)
 have HAI:=Lib.hid (setAll_iff domL s).2
 have HDI:=Lib.hid (dotsI_iff s)
 generalize domI s=r at *
 by_cases h1:s.size < 1
 ·have HR:Box (r=false):=⟨by rw [HX.out,hle,decide_eq_false (by omega)];rfl⟩
  clear HX hle HE HAT HNO HAI HDI
  have h1':(s.size:Int) < 1:=by omega
  have h1d:decide ((s.size:Int) < 1)=true:=decide_eq_true h1'
  go_enter Tryz.func209,Tryz.ntmps209
  go_wp2
  go_ret
  exact⟨ret_bool HR.out.symm,rfl⟩
 ·have h1':¬(s.size:Int) < 1:=by omega
  have h1d:decide ((s.size:Int) < 1)=false:=decide_eq_false h1'
  by_cases h2:64 < s.size
  ·have HR:Box (r=false):=⟨by rw [HX.out,hle,decide_eq_false (by omega)];rfl⟩
   have h2d:decide ((64:Int) < s.size)=true:=decide_eq_true (by omega)
   clear HX hle HE HAT HNO HAI HDI
   go_enter Tryz.func209,Tryz.ntmps209
   go_wp2
   go_ret
   exact⟨ret_bool HR.out.symm,rfl⟩
  ·have h2d:decide ((64:Int) < s.size)=false:=decide_eq_false (by omega)
   have HXL:Box (r=(setAll domL s && endsI s && dotsI s)):=⟨by rw [HX.out,hle,decide_eq_true (by omega)];rfl⟩
   have hx0:=at_eq s 0 (by omega)
   have hx1:=at_eq s (s.size - 1) (by omega)
   have hn:((s.size:Int) - 1).toNat=s.size - 1:=by omega
   have hi:(0:Int)≤(s.size:Int) - 1:=by omega
   have hi2:(s.size:Int) - 1 < (s.size:Int):=by omega
   have hb0:b_at s 0 < 256:=b_lt s 0
   have hb1:b_at s (s.size - 1) < 256:=b_lt s _
   have HP0:=Lib.hid (fun W=>plain_any (b_at s 0:Int) W)
   have HP1:=Lib.hid (fun W=>plain_any (b_at s (s.size - 1):Int) W)
   have HPW:=Lib.hid (fun i W=>plain_any (b_at s i:Int) W)
   clear HX hle
   cases hp0:plainC (b_at s 0:Int)
   ·rw [hp0] at HP0
    have HR:Box (r=false):=⟨by rw [HXL.out,HE.out,hp0];simp⟩
    clear hp0
    go_enter Tryz.func209,Tryz.ntmps209
    go_wp2_with fail
    refine(HP0.out _).mono ?_
    rintro e w1 ⟨rfl,rfl⟩
    go_wp2
    go_ret
    exact⟨ret_bool HR.out.symm,rfl⟩
   ·cases hp1:plainC (b_at s (s.size - 1):Int)
    ·rw [hp0] at HP0
     rw [hp1] at HP1
     have HR:Box (r=false):=⟨by rw [HXL.out,HE.out,hp1];simp⟩
     clear hp0 hp1
     go_enter Tryz.func209,Tryz.ntmps209
     go_wp2_with fail
     refine(HP0.out _).mono ?_
     rintro e w1 ⟨rfl,rfl⟩
     go_wp2_with fail
     refine(HP1.out _).mono ?_
     rintro e w1 ⟨rfl,rfl⟩
     go_wp2
     go_ret
     exact⟨ret_bool HR.out.symm,rfl⟩
    ·rw [hp0] at HP0
     rw [hp1] at HP1
     have HXS:Box (r=(setAll domL s && dotsI s)):=⟨by rw [HXL.out,HE.out,hp0,hp1];simp⟩
     clear hp0 hp1 HXL HE
     go_enter Tryz.func209,Tryz.ntmps209
     go_wp2_with fail
     refine(HP0.out _).mono ?_
     rintro e w1 ⟨rfl,rfl⟩
     go_wp2_with fail
     refine(HP1.out _).mono ?_
     rintro e w1 ⟨rfl,rfl⟩
     clear hx0 hx1 hb0 hb1 HP0 HP1
     go_wp2
     go_loop [3] (fun s3=>∃k:Nat,k≤s.size∧s3=.int .i64 k∧Hid (∀i,i < k→domL.contains (s.get! i)=true∧dotAt s i=false)) (fun s3=>s.size - (intOf s3).toNat)
     case atStart=>exact⟨0,Nat.zero_le _,rfl,Lib.hid (fun i hi=>absurd hi (by omega))⟩
     case round=>
      obtain⟨k,hk,rfl,HN⟩:=hrel
      by_cases hlt:k < s.size
      ·have hx:=at_eq s k hlt
       have hxl:b_at s k < 256:=b_lt s k
       have HP:=Lib.hid (HPW.out k)
       have HK:=Box.mk (HAT.out k)
       have HDA:Box (dotAt s k=(decide (0 < k) && (b_at s k == 46) && (b_at s (k - 1) == 46))):=⟨rfl⟩
       have HNOK:Hid (domL.contains (s.get! k)=false→r=false):=Lib.hid (fun h=>by rw [HXS.out,HNO.out k hlt h,Bool.false_and])
       have HNOD:Hid (dotAt s k=true→r=false):=Lib.hid (fun h=>by
        rw [HXS.out]
        cases hd:dotsI s with
        | false=>rw [Bool.and_false]
        | true=>rw [HDI.out.1 hd k hlt] at h;cases h)
       have HNX:Hid (domL.contains (s.get! k)=true→dotAt s k=false→∀i,i < k+1→domL.contains (s.get! i)=true∧dotAt s i=false):=Lib.hid (fun h h' i hi=>by
        rcases Nat.lt_or_ge i k with h1|h1
        ·exact HN.out i h1
        ·obtain rfl:i=k:=by omega
         exact⟨h,h'⟩)
       have hxp:0 < k→(s[k - 1]'(by omega)).toNat=b_at s (k - 1):=fun h=>at_eq s (k - 1) (by omega)
       have hkn:((k:Int) - 1).toNat=k - 1:=by omega
       have hyl:b_at s (k - 1) < 256:=b_lt s _
       have hplain:plainC (b_at s k:Int)=true→b_at s k≠46:=fun h e=>by have:=plain_ge h;omega
       generalize dotAt s k=dk at *
       generalize domL.contains (s.get! k)=lc at *
       generalize b_at s k=x at *
       generalize b_at s (k - 1)=y at *
       cases hpc:plainC (x:Int)
       ·rw [hpc] at HP HK
        clear hplain hpc
        by_cases h46:x=46
        ·subst h46
         rcases Nat.eq_zero_or_pos k with hk0|hk0
         ·subst hk0
          have HDF:Box (dk=false):=⟨by rw [HDA.out];simp⟩
          go_wp2_with fail
          refine(HP.out _).mono ?_
          rintro e w1 ⟨rfl,rfl⟩
          go_wp2
          go_round
          case rel=>exact⟨1,by omega,by go_num,HNX.out (by rw [HK.out];simp) HDF.out⟩
          case measure=>simp [intOf];omega
         ·have hxq:=hxp hk0
          have hk0':(0:Int) < (k:Int):=by omega
          have hk1:(0:Int)≤(k:Int) - 1:=by omega
          have hk2:(k:Int) - 1 < (s.size:Int):=by omega
          clear hxp
          by_cases hy:y=46
          ·subst hy
           have HRF:Box (r=false):=⟨HNOD.out (by rw [HDA.out];simp [hk0])⟩
           go_wp2_with fail
           refine(HP.out _).mono ?_
           rintro e w1 ⟨rfl,rfl⟩
           go_wp2
           go_ret
           exact⟨ret_bool HRF.out.symm,rfl⟩
          ·have hyq:((y:Int) == 46)=false:=by rw [beq_eq_false_iff_ne];omega
           have HDF:Box (dk=false):=⟨by rw [HDA.out];simp [hy]⟩
           clear hy
           go_wp2_with fail
           refine(HP.out _).mono ?_
           rintro e w1 ⟨rfl,rfl⟩
           go_wp2
           go_round
           case rel=>exact⟨k+1,by omega,by go_num,HNX.out (by rw [HK.out];simp) HDF.out⟩
           case measure=>simp [intOf];omega
        ·have hxq:((x:Int) == 46)=false:=by rw [beq_eq_false_iff_ne];omega
         have hxq2:((x:Int) != 46)=true:=by rw [bne_iff_ne];omega
         have HDF:Box (dk=false):=⟨by rw [HDA.out];simp [h46]⟩
         by_cases h45:x=45
         ·subst h45
          clear hxq hxq2 h46 hxp
          rcases Nat.eq_zero_or_pos k with hk0|hk0
          all_goals
           try subst hk0
           go_wp2_with fail
           refine(HP.out _).mono ?_
           rintro e w1 ⟨rfl,rfl⟩
           go_wp2
           go_round
           case rel=>exact⟨_,by omega,by go_num,HNX.out (by rw [HK.out];simp) HDF.out⟩
           case measure=>simp [intOf];omega
         ·have hxq3:((x:Int) != 45)=true:=by rw [bne_iff_ne];omega
          have HRF:Box (r=false):=⟨HNOK.out (by rw [HK.out,decide_eq_false h46,decide_eq_false h45];rfl)⟩
          clear h46 h45 hxp hxq
          go_wp2_with fail
          refine(HP.out _).mono ?_
          rintro e w1 ⟨rfl,rfl⟩
          go_wp2
          go_ret
          exact⟨ret_bool HRF.out.symm,rfl⟩
       ·have h46:=hplain hpc
        rw [hpc] at HP HK
        have hxq:((x:Int) == 46)=false:=by rw [beq_eq_false_iff_ne];omega
        have HDF:Box (dk=false):=⟨by rw [HDA.out];simp [h46]⟩
        clear hplain hpc h46 hxp
        rcases Nat.eq_zero_or_pos k with hk0|hk0
        all_goals
         try subst hk0
         go_wp2_with fail
         refine(HP.out _).mono ?_
         rintro e w1 ⟨rfl,rfl⟩
         go_wp2
         go_round
         case rel=>exact⟨_,by omega,by go_num,HNX.out (by rw [HK.out];simp) HDF.out⟩
         case measure=>simp [intOf];omega
      ·obtain rfl:k=s.size:=by omega
       have HRT:Box (r=true):=⟨by rw [HXS.out,HAI.out (fun i hi=>(HN.out i hi).1),HDI.out.2 (fun i hi=>(HN.out i hi).2)];rfl⟩
       go_wp2
       go_ret
       exact⟨ret_bool HRT.out.symm,rfl⟩
end Go.Proofs.YtnmnpnofdgdigaaGreatDoor
end
section
namespace Go.Proofs.YtnmnpnofdgdigaaGreatDoor
open Go.RowKit
set_option linter.unusedSimpArgs false
set_option linter.unusedVariables false
set_option maxHeartbeats 4000000 in
set_option maxRecDepth 10000 in
theorem refres_any (s:ByteArray) (w:World) (hs:s.size≤1000000000):Calls Tryz.prog 55 #[.string s] w fun e w'=>e=.returned (.bool (resI s))∧Below w.heap.size w w':=by
 have HX:Box (resI s=(lenOK s && (decide (textErr s=0) && seenI s))):=⟨rfl⟩
 have hle:=lenOK_iff s
 have HSE:=Lib.hid (seen_at s)
 have HT:=Lib.hid (fun W=>refis5_any s W hs)
 have HTE:Hid (s.size≤64→decide (textErr s=0)=textOK s):=Lib.hid (fun h=>by
  unfold textErr
  rw [if_neg (by omega)]
  cases textOK s <;> rfl)
 generalize resI s=r at *
 generalize textOK s=tk at *
 go_enter Tryz.func55,Tryz.ntmps55
 go_wp2
 go_loop [3] (fun s3=>∃k:Nat,k≤s.size∧s3=.int .i64 k∧Hid (∀i,i < k→32≤b_at s i)) (fun s3=>s.size - (intOf s3).toNat)
 case atStart=>exact⟨0,Nat.zero_le _,rfl,Lib.hid (fun i hi=>absurd hi (by omega))⟩
 case round=>
  obtain⟨k,hk,rfl,HN⟩:=hrel
  by_cases hlt:k < s.size
  ·have hx:=at_eq s k hlt
   have hxl:b_at s k < 256:=b_lt s k
   by_cases h32:b_at s k < 32
   ·have HR:Box (r=false):=⟨by
     rw [HX.out]
     cases hq:seenI s with
     | false=>simp
     | true=>have:=HSE.out.1 hq k hlt;omega⟩
    generalize b_at s k=x at *
    clear HX hle
    go_wp2
    go_ret
    exact⟨ret_bool HR.out.symm,Below.refl _ _⟩
   ·have HN2:Hid (∀i,i < k+1→32≤b_at s i):=Lib.hid (fun i hi=>by
     rcases Nat.lt_or_ge i k with h1|h1
     ·exact HN.out i h1
     ·obtain rfl:i=k:=by omega
      omega)
    generalize b_at s k=x at *
    clear HX hle
    go_wp2
    go_round
    case rel=>exact⟨k+1,by omega,by go_num,HN2⟩
    case measure=>simp [intOf];omega
  ·obtain rfl:k=s.size:=by omega
   have HXS:Box (r=(lenOK s && decide (textErr s=0))):=⟨by rw [HX.out,HSE.out.2 HN.out,Bool.and_true]⟩
   clear HX
   by_cases h1:1≤s.size
   ·have h1d:decide ((1:Int)≤s.size)=true:=decide_eq_true (by omega)
    by_cases h2:s.size≤64
    ·have h2d:decide ((s.size:Int)≤64)=true:=decide_eq_true (by omega)
     have HR:Box (r=tk):=⟨by rw [HXS.out,hle,decide_eq_true (by omega),HTE.out h2];rfl⟩
     clear hle HXS
     go_wp2_with fail
     refine(HT.out _).mono ?_
     rintro e w1 ⟨rfl,hb1⟩
     go_wp2
     go_ret
     exact⟨(ret_bool (by first|(rw [HR.out];done)|(rw [HR.out];simp_all;done))),hb1⟩
    ·have h2d:decide ((s.size:Int)≤64)=false:=decide_eq_false (by omega)
     have HR:Box (r=false):=⟨by rw [HXS.out,hle,decide_eq_false (by omega)];rfl⟩
     clear hle HXS
     go_wp2
     go_ret
     exact⟨ret_bool HR.out.symm,Below.refl _ _⟩
   ·have h1d:decide ((1:Int)≤s.size)=false:=decide_eq_false (by omega)
    have HR:Box (r=false):=⟨by rw [HXS.out,hle,decide_eq_false (by omega)];rfl⟩
    clear hle HXS
    go_wp2
    go_ret
    exact⟨ret_bool HR.out.symm,Below.refl _ _⟩
def JAt (w:World) (g:Nat) (l d r:ByteArray):Prop:=∃t,w.heap[g]? = some (.cells #[.string l,.string d,.string r] t (0,0))
variable {w w':World} {g:Nat} {l d r:ByteArray}
theorem JAt.c0 (h:JAt w g l d r):w.cell? ⟨g,0,none⟩=some (.string l):=by obtain⟨t,h⟩:=h;simp [World.cell?,h]
theorem JAt.c1 (h:JAt w g l d r):w.cell? ⟨g,1,none⟩=some (.string d):=by obtain⟨t,h⟩:=h;simp [World.cell?,h]
theorem JAt.c2 (h:JAt w g l d r):w.cell? ⟨g,2,none⟩=some (.string r):=by obtain⟨t,h⟩:=h;simp [World.cell?,h]
theorem JAt.fz (h:JAt w g l d r) (i:Nat):w.frozen? ⟨g,i,none⟩=false:=by obtain⟨t,h⟩:=h;exact frozen_of_row w g i _ _ h
theorem JAt.lt (h:JAt w g l d r):g < w.heap.size:=by obtain⟨t,h⟩:=h;exact(Array.getElem?_eq_some_iff.1 h).1
theorem JAt.ext (h:JAt w g l d r) (hb:Below w.heap.size w w'):JAt w' g l d r:=by obtain⟨t,h⟩:=h;exact⟨t,heap_ext h hb⟩
theorem JAt.extB {B:Nat} (h:JAt w g l d r) (hb:Below B w w') (hg:g < B):JAt w' g l d r:=by obtain⟨t,h⟩:=h;exact⟨t,(hb.block g hg).trans h⟩
theorem JAt.new (w:World) (t:TypeId) (l d r:ByteArray):JAt (w.alloc (.cells #[.string l,.string d,.string r] t)) w.heap.size l d r:=⟨t,heap_alloc_new w _⟩
theorem JAt.set0 (h:JAt w g l d r) (x:ByteArray):JAt (w.setCell ⟨g,0,none⟩ (.string x)) g x d r:=by obtain⟨t,h⟩:=h;exact⟨t,heap_setCell_same w g 0 _ _ _ h⟩
theorem JAt.set1 (h:JAt w g l d r) (x:ByteArray):JAt (w.setCell ⟨g,1,none⟩ (.string x)) g l x r:=by obtain⟨t,h⟩:=h;exact⟨t,heap_setCell_same w g 1 _ _ _ h⟩
theorem JAt.set2 (h:JAt w g l d r) (x:ByteArray):JAt (w.setCell ⟨g,2,none⟩ (.string x)) g l d x:=by obtain⟨t,h⟩:=h;exact⟨t,heap_setCell_same w g 2 _ _ _ h⟩
theorem JAt.other (h:JAt w g l d r) {g' o:Nat} (hne:g≠g') (u:Value):JAt (w.setCell ⟨g',o,none⟩ u) g l d r:=by obtain⟨t,h⟩:=h;exact⟨t,(heap_setCell_other w _ g _ hne).trans h⟩
theorem JAt.drew (h:JAt w g l d r):JAt w.drew g l d r:=h
theorem ret_str {a b:ByteArray} (h:a=b):Ending.returned (.string a)=.returned (.string b):=by rw [h]
set_option maxHeartbeats 4000000 in
set_option maxRecDepth 10000 in
theorem refjmay_any (j:JidL) (w:World) (hz:SzJ j):Calls Tryz.prog 188 #[encJ j] w fun e w'=>e=.returned (.bool (jidI j))∧Below w.heap.size w w':=by
 obtain⟨l,d,r⟩:=j
 obtain⟨z0,z1,z2⟩:=hz
 dsimp only at z0 z1 z2
 have HJ:Box (jidI ⟨l,d,r⟩=(domI d && (isEmp l || localI l) && (isEmp r || resI r))):=⟨by
  show((isEmp l || localI l) && (isEmp r || resI r) && domI d)=_
  cases domI d <;> simp⟩
 have H1:=Lib.hid (fun W=>refdomain_any d W z1)
 have H2:=Lib.hid (fun W=>reflocal_any l W z0)
 have H3:=Lib.hid (fun W=>refres_any r W z2)
 have HX0:=Lib.hid ((Below.refl w.heap.size w).alloc (Nat.le_refl _) (.cells #[.string l,.string d,.string r] 102))
 have el:=emp_iff l
 have er:=emp_iff r
 clear z0 z1 z2
 generalize jidI ⟨l,d,r⟩=q at *
 unfold encJ
 generalize domI d=bd at *
 generalize localI l=bl at *
 generalize resI r=br at *
 cases he1:isEmp l
 all_goals
  rw [he1] at el HJ
  cases he2:isEmp r
  all_goals
   rw [he2] at er HJ
   clear he2
   cases bd
   all_goals
    cases bl
    all_goals
     go_enter Tryz.func188,Tryz.ntmps188
     go_wp2_with (first
       | (go_at_call 209;refine(H1.out _).mono ?_;rintro e w1 ⟨rfl,rfl⟩)
       | (go_at_call 210;refine(H2.out _).mono ?_;rintro e w2 ⟨rfl,rfl⟩)
       | (go_at_call 55;refine(H3.out _).mono ?_;rintro e w3 ⟨rfl,hb3⟩))
     go_ret
     first|exact⟨(ret_bool (by first|(rw [HJ.out];done)|(rw [HJ.out];simp_all;done))),HX0.out⟩|exact⟨(ret_bool (by first|(rw [HJ.out];done)|(rw [HJ.out];simp_all;done))),HX0.out.trans (hb3.mono HX0.out.size)⟩
theorem reftext_any (j:JidL) (w:World) (hz:SzJ j):Calls Tryz.prog 150 #[encJ j] w fun e w'=>e=.returned (.string (textJ j))∧Below w.heap.size w w':=by
 obtain⟨l,d,r⟩:=j
 obtain⟨z0,z1,z2⟩:=hz
 dsimp only at z0 z1 z2
 have HX0:=Lib.hid ((Below.refl w.heap.size w).alloc (Nat.le_refl _) (.cells #[.string l,.string d,.string r] 102))
 have HT:Box (textJ ⟨l,d,r⟩=(if isEmp l then d else l++(⟨#[64]⟩:ByteArray)++d)++(if isEmp r then emB else(⟨#[47]⟩:ByteArray)++r)):=⟨rfl⟩
 have el:=emp_iff l
 have er:=emp_iff r
 generalize textJ ⟨l,d,r⟩=q at *
 have s64:((⟨#[64]⟩:ByteArray)).size=1:=rfl
 have s47:((⟨#[47]⟩:ByteArray)).size=1:=rfl
 have hsa:∀a b:ByteArray,(a++b).size=a.size+b.size:=fun a b=>by simp
 unfold encJ
 cases he1:isEmp l
 all_goals
  rw [he1] at el HT
  clear he1
  cases he2:isEmp r
  all_goals
   rw [he2] at er HT
   clear he2
   go_enter Tryz.func150,Tryz.ntmps150
   go_wp2
   go_ret
   refine⟨ret_str ?_,HX0.out⟩
   rw [HT.out]
   apply ba_ext
   simp [emB]
end Go.Proofs.YtnmnpnofdgdigaaGreatDoor
end
section
namespace Go.Proofs.YtnmnpnofdgdigaaGreatDoor
open Go.RowKit
set_option linter.unusedSimpArgs false
set_option linter.unusedVariables false
theorem results_jid {P:Program} {fn:Func} {p s:Tmp} {ty:TypeId} {fs:Array Field} (h:fn.results=#[.cell p ty,.tmp s]) (tmps:Array Value) (w:World) (g:Nat) (t:TypeId) (cs:Array Value) (fr:Nat×Nat) (v:Value)
  (hp:tmps.getD p undef=.pointer (some ⟨g,0,none⟩)) (hs:tmps.getD s undef=v) (hg:w.heap[g]? = some (.cells cs t fr)) (hu:P.underlying ty=some (.struct fs)) (hi:(P.info? ty).map (·.size)=some cs.size) :
  (results fn tmps).run P w=.ok (.tuple #[.agg cs,v]) w:=by
 have hp':tmps[p]?.getD undef=.pointer (some ⟨g,0,none⟩):=by simpa using hp
 have hs':tmps[s]?.getD undef=v:=by simpa using hs
 simp [results,h,hp',hs',asAddr,run_loadVar_row w g t ty cs fr (.struct fs) hg hu rfl hi]
theorem at_any (s:ByteArray) (c:Int) (w:World) (hs:s.size≤1000000000) (h0:0≤c) (h1:c < 256):Calls Tryz.prog 186 #[.string s,.int .u8 c] w fun e w'=>e=.returned (.int .i64 (placeI (fstL (numsOf s) c)))∧w=w':=by
 go_enter Tryz.func186,Tryz.ntmps186
 go_wp2
 go_loop [5] (fun s5=>∃k:Nat,k≤s.size∧s5=.int .i64 k∧Hid (∀i,i < k→(b_at s i:Int)≠c)) (fun s5=>s.size - (intOf s5).toNat)
 case atStart=>exact⟨0,Nat.zero_le _,rfl,Lib.hid (fun i hi=>absurd hi (by omega))⟩
 case round=>
  obtain⟨k,hk,rfl,HN⟩:=hrel
  have hnum:∀i,i < s.size→(numsOf s)[i]? = some (b_at s i:Int):=fun i hi=>by rw [numsOf_get s i hi,at_eq s i hi]
  by_cases hlt:k < s.size
  ·have hx:=at_eq s k hlt
   have hxl:b_at s k < 256:=b_lt s k
   by_cases hc:(b_at s k:Int)=c
   ·have HF:Box (placeI (fstL (numsOf s) c)=(k:Int)):=⟨by
     rw [fstL_is (i:=k) (by rw [hnum k hlt,hc]) (fun j x hj hx=>by
      rw [hnum j (by omega)] at hx
      simp only [Option.some.injEq] at hx
      rw [←hx]
      exact HN.out j hj)]
     rfl⟩
    have hq:((b_at s k:Int) == c)=true:=by rw [beq_iff_eq];exact hc
    clear hc hnum
    generalize b_at s k=x at *
    go_wp2
    go_ret
    exact⟨ret_int HF.out.symm,rfl⟩
   ·have hq:((b_at s k:Int) == c)=false:=by rw [beq_eq_false_iff_ne];exact hc
    have HN2:Hid (∀i,i < k+1→(b_at s i:Int)≠c):=Lib.hid (fun i hi=>by
     rcases Nat.lt_or_ge i k with h1|h1
     ·exact HN.out i h1
     ·obtain rfl:i=k:=by omega
      exact hc)
    clear hc hnum
    generalize b_at s k=x at *
    go_wp2
    go_round
    case rel=>exact⟨k+1,by omega,by go_num,HN2⟩
    case measure=>simp [intOf];omega
  ·obtain rfl:k=s.size:=by omega
   have HF:Box (placeI (fstL (numsOf s) c)=-1):=⟨by
    rw [fstL_not (fun j x hx=>by
     have hj:=(List.getElem?_eq_some_iff.1 hx).1
     rw [numsOf_length] at hj
     rw [hnum j hj] at hx
     simp only [Option.some.injEq] at hx
     rw [←hx]
     exact HN.out j hj)]
    rfl⟩
   clear hnum
   go_wp2
   go_ret
   exact⟨ret_int HF.out.symm,rfl⟩
set_option maxHeartbeats 4000000 in
set_option maxRecDepth 10000 in
theorem write_any (j:JidL) (w:World) (hz:SzJ j) (hg:Glb w):Calls Tryz.prog 116 #[encJ j] w fun e w'=>(e=.returned (.tuple #[.string (if jidI j then textJ j else emB),.int .i64 (jidErr j)]))∧Below w.heap.size w w':=by
 obtain⟨l,d,r⟩:=j
 obtain⟨W0,hW0⟩:∃W0,W0=w.alloc (.cells #[.string l,.string d,.string r] 102):=⟨_,rfl⟩
 have hX0:Below w.heap.size w W0:=by rw [hW0];exact(Below.refl _ _).alloc (Nat.le_refl _) _
 have hJ:JAt W0 w.heap.size l d r:=by rw [hW0];exact JAt.new _ _ _ _ _
 have HJ:=Lib.hid hJ
 have HX0:=Lib.hid hX0
 have H:=Lib.hid (jcheck_any ⟨l,d,r⟩ W0 hz (hg.below hX0))
 obtain⟨z0,z1,z2⟩:=hz
 dsimp only at z0 z1 z2
 have HT:Box (textJ ⟨l,d,r⟩=(if isEmp l then d else l++(⟨#[64]⟩:ByteArray)++d)++(if isEmp r then emB else(⟨#[47]⟩:ByteArray)++r)):=⟨rfl⟩
 have HE:Box (jidErr ⟨l,d,r⟩=if jidI ⟨l,d,r⟩ then 0 else 8):=⟨rfl⟩
 have el:=emp_iff l
 have er:=emp_iff r
 have s64:((⟨#[64]⟩:ByteArray)).size=1:=rfl
 have s47:((⟨#[47]⟩:ByteArray)).size=1:=rfl
 have hsa:∀a b:ByteArray,(a++b).size=a.size+b.size:=fun a b=>by simp
 rw [hW0] at H HJ HX0
 clear hW0 hX0 hJ hg
 unfold encJ at H ⊢
 generalize textJ ⟨l,d,r⟩=q at *
 cases hj:jidI ⟨l,d,r⟩
 ·rw [hj] at HE
  have he:=HE.out
  simp only [Bool.false_eq_true,if_false] at he
  rw [he] at H ⊢
  clear hj HE he
  go_enter Tryz.func116,Tryz.ntmps116
  go_wp2_with fail
  refine H.out.mono ?_
  rintro e w1 ⟨rfl,hb1⟩
  go_wp2
  go_ret2
  exact⟨rfl,HX0.out.trans (hb1.mono HX0.out.size)⟩
 ·rw [hj] at HE
  have he:=HE.out
  simp only [if_true] at he
  rw [he] at H ⊢
  clear hj HE he
  cases he1:isEmp l
  all_goals
   rw [he1] at el HT
   clear he1
   cases he2:isEmp r
   all_goals
    rw [he2] at er HT
    clear he2
    go_enter Tryz.func116,Tryz.ntmps116
    go_wp2_with fail
    refine H.out.mono ?_
    rintro e w1 ⟨rfl,hb1⟩
    have J1:=HJ.out.ext hb1
    have c0:=J1.c0
    have c1:=J1.c1
    have c2:=J1.c2
    have X1:=Lib.hid (HX0.out.trans (hb1.mono HX0.out.size))
    clear hb1 J1
    go_wp2
    go_ret2
    refine⟨?_,X1.out⟩
    rw [HT.out]
    simp only [Bool.false_eq_true,if_false,if_true]
    refine ret_two (congrArg Value.string ?_) rfl
    apply ba_ext
    simp [emB]
end Go.Proofs.YtnmnpnofdgdigaaGreatDoor
end
section
namespace Go.Proofs.YtnmnpnofdgdigaaGreatDoor
open Go.RowKit
set_option linter.unusedSimpArgs false
set_option linter.unusedVariables false
theorem scut_any (s:ByteArray) (c:UInt8) (w:World) (hs:s.size≤1000000000):Calls Tryz.prog 166 #[.string s,.string ⟨#[c]⟩] w (CutPost s (c.toNat:Int) w):=by
 have H:=Lib.hid (cut_any s c w hs)
 go_enter Tryz.func166,Tryz.ntmps166
 go_wp2_with fail
 refine H.out.mono ?_
 rintro e w1 ⟨rfl,hb⟩
 have X:=Lib.hid hb
 clear hb
 go_wp2
 go_ret3
 exact⟨rfl,X.out⟩
theorem cut_sz (s:ByteArray) (c:Int):(cutI s c).1.size≤s.size∧(cutI s c).2.1.size≤s.size:=by
 have h0:(⟨#[]⟩:ByteArray).size=0:=rfl
 unfold cutI
 cases h:fstL (numsOf s) c <;> simp only [h0,ByteArray.size_extract] <;> omega
theorem full_cut (s:ByteArray):fullI s=(if (cutI s 58).2.2 then nameI (cutI s 58).1 && nameI (cutI s 58).2.1 else nameI s):=by
 unfold fullI cutI
 cases h:fstL (numsOf s) 58 <;> simp
theorem full_any (s:ByteArray) (w:World) (hs:s.size≤1000000000):Calls Tryz.prog 143 #[.string s] w fun e w'=>e=.returned (.bool (fullI s))∧Below w.heap.size w w':=by
 have H:=Lib.hid (scut_any s 58 w hs)
 have hz:=cut_sz s 58
 have HF:=Box.mk (full_cut s)
 have H1:=Lib.hid (fun W=>name_any (cutI s 58).1 W (by omega))
 have H2:=Lib.hid (fun W=>name_any (cutI s 58).2.1 W (by omega))
 have H3:=Lib.hid (fun W=>name_any s W hs)
 rw [show(((58:UInt8).toNat:Nat):Int)=58 from rfl] at H
 unfold CutPost at H
 clear hz
 generalize cutI s 58=cc at *
 obtain⟨a,b,is⟩:=cc
 dsimp only at H HF H1 H2
 generalize fullI s=r at *
 generalize nameI s=n0 at *
 generalize nameI a=n1 at *
 generalize nameI b=n2 at *
 cases is
 ·go_enter Tryz.func143,Tryz.ntmps143
  go_wp2_with fail
  refine H.out.mono ?_
  rintro e w1 ⟨rfl,hb⟩
  have X:=Lib.hid hb
  clear hb
  cases n0
  ·go_wp2_with fail
   refine(H3.out _).mono ?_
   rintro e w2 ⟨rfl,rfl⟩
   go_wp2
   go_ret
   exact⟨ret_bool (by rw [HF.out];rfl),X.out⟩
  ·go_wp2_with fail
   refine(H3.out _).mono ?_
   rintro e w2 ⟨rfl,rfl⟩
   go_wp2
   go_ret
   exact⟨ret_bool (by rw [HF.out];rfl),X.out⟩
 ·go_enter Tryz.func143,Tryz.ntmps143
  go_wp2_with fail
  refine H.out.mono ?_
  rintro e w1 ⟨rfl,hb⟩
  have X:=Lib.hid hb
  clear hb
  cases n1
  ·go_wp2_with fail
   refine(H1.out _).mono ?_
   rintro e w2 ⟨rfl,rfl⟩
   go_wp2
   go_ret
   exact⟨ret_bool (by rw [HF.out];rfl),X.out⟩
  ·go_wp2_with fail
   refine(H1.out _).mono ?_
   rintro e w2 ⟨rfl,rfl⟩
   go_wp2_with fail
   refine(H2.out _).mono ?_
   rintro e w2 ⟨rfl,rfl⟩
   go_wp2
   go_ret
   exact⟨ret_bool (by rw [HF.out];cases n2 <;> rfl),X.out⟩
end Go.Proofs.YtnmnpnofdgdigaaGreatDoor
end
