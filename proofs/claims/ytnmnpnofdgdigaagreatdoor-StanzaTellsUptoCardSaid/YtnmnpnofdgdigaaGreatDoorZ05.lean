/- Part 5 of a proof laid in parts, one behind the other; no condition of its own. -/
import Derived.Shelf.GgClosure.StringsIndexFunc
import Derived.Test.YtnmnpnofdgdigaaGreatDoorZ04
import Derived.Lib.Index
import Derived.Test.YtnmnpnofdgdigaaGreatDoorZ03
import Derived.Outline
set_option linter.all false
section
namespace Go.Proofs.YtnmnpnofdgdigaaGreatDoor
theorem seen_at (s:ByteArray):seenI s=true↔∀i,i < s.size→32≤b_at s i:=by
 have hg:∀i (h:i < s.data.toList.length),s.get! i=s.data.toList[i]:=fun i h=>by
  show s.data[i]! = _
  rw [getElem!_pos s.data i h]
  rfl
 unfold seenI b_at
 rw [List.all_eq_true]
 constructor
 ·intro h i hi
  have hl:i < s.data.toList.length:=hi
  rw [hg i hl]
  exact of_decide_eq_true (h _ (List.getElem_mem hl))
 ·intro h b hb
  obtain⟨i,hi,rfl⟩:=List.mem_iff_getElem.1 hb
  have:=h i hi
  rw [hg i hi] at this
  exact decide_eq_true this
theorem dec_seen (s:ByteArray) (i:Nat):((Utf8.decode s i).1 < 32→(Utf8.decode s i).1=b_at s i)∧(32≤(Utf8.decode s i).1→∀k,i≤k→k < i+(Utf8.decode s i).2→32≤b_at s k):=by
 rw [Lib.decode_at s i]
 generalize s.size - i=n
 obtain⟨b0,e0⟩:∃b0,b0=b_at s i:=⟨_,rfl⟩
 obtain⟨b1,e1⟩:∃b1,b1=b_at s (i+1):=⟨_,rfl⟩
 obtain⟨b2,e2⟩:∃b2,b2=b_at s (i+2):=⟨_,rfl⟩
 obtain⟨b3,e3⟩:∃b3,b3=b_at s (i+3):=⟨_,rfl⟩
 have h0:b0 < 256:=by rw [e0];exact b_lt s i
 rw [show(s.get! i).toNat=b0 from e0.symm,show(s.get! (i+1)).toNat=b1 from e1.symm,show(s.get! (i+2)).toNat=b2 from e2.symm,show(s.get! (i+3)).toNat=b3 from e3.symm,←e0]
 by_cases hlt:b0 < 128
 ·rw [(law1 n b0 b1 b2 b3 hlt).1]
  refine⟨fun _=>rfl,fun h1 k hk1 hk2=>?_⟩
  dsimp only at h1 hk2
  obtain rfl:k=i:=by omega
  omega
 ·rcases Lib.decodeN_shape n b0 b1 b2 b3 with ⟨h,e⟩|⟨_,h,k1,k2,e⟩|⟨_,h,k1,k2,k3,k4,e⟩|⟨_,h,k1,k2,k3,k4,k5,e⟩|e
  all_goals
   rw [e]
   dsimp only
   refine⟨fun h1=>by omega,fun h1 k hk1 hk2=>?_⟩
  ·omega
  ·have:k=i∨k=i+1:=by omega
   rcases this with rfl|rfl <;> omega
  ·have:k=i∨k=i+1∨k=i+2:=by omega
   rcases this with rfl|rfl|rfl <;> omega
  ·have:k=i∨k=i+1∨k=i+2∨k=i+3:=by omega
   rcases this with rfl|rfl|rfl|rfl <;> omega
  ·obtain rfl:k=i:=by omega
   omega
theorem seen_from (s:ByteArray):∀(f pos:Nat),s.size≤pos+f→(0≤Lib.idxFuncFrom (fun r=>decide (r < 32)) true s f pos↔∃i,pos≤i∧i < s.size∧b_at s i < 32)
 | 0,pos,h=>by
  simp only [Lib.idxFuncFrom]
  constructor
  ·intro h;omega
  ·rintro ⟨i,h1,h2,_⟩;omega
 | f+1,pos,h=>by
  unfold Lib.idxFuncFrom
  have hd:=Lib.width_pos s pos
  obtain⟨h1,h2⟩:=dec_seen s pos
  by_cases hp:pos < s.size
  ·rw [if_pos hp]
   by_cases hr:(Utf8.decode s pos).1 < 32
   ·rw [if_pos (by simpa using hr)]
    have:=h1 hr
    constructor
    ·intro _;exact⟨pos,Nat.le_refl _,hp,by omega⟩
    ·intro _;omega
   ·rw [if_neg (by simpa using hr),seen_from s f _ (by omega)]
    constructor
    ·rintro ⟨i,a,b,c⟩;exact⟨i,by omega,b,c⟩
    ·rintro ⟨i,a,b,c⟩
     refine⟨i,?_,b,c⟩
     rcases Nat.lt_or_ge i (pos+(Utf8.decode s pos).2) with h3|h3
     ·have:=h2 (by omega) i a h3
      omega
     ·exact h3
  ·rw [if_neg hp]
   constructor
   ·intro h;omega
   ·rintro ⟨i,a,b,_⟩;omega
theorem seen_law (s:ByteArray):decide (0≤Lib.idxFunc (fun r=>decide (r < 32)) true s)=!seenI s:=by
 unfold Lib.idxFunc
 have h:=seen_from s s.size 0 (by omega)
 cases hs:seenI s with
 | true=>
  rw [seen_at] at hs
  rw [Bool.not_true,decide_eq_false_iff_not,h]
  rintro ⟨i,_,h2,h3⟩
  have:=hs i h2
  omega
 | false=>
  rw [Bool.not_false,decide_eq_true_eq,h]
  refine Classical.byContradiction fun hn=>?_
  have:seenI s=true:=(seen_at s).2 fun i hi=>by
   rcases Nat.lt_or_ge (b_at s i) 32 with h1|h1
   ·exact absurd ⟨i,Nat.zero_le _,hi,h1⟩ hn
   ·exact h1
  rw [hs] at this
  cases this
theorem index_dots:∀l:List UInt8,(0≤Lib.index l [46,46])↔∃i:Nat,l[i]? = some 46∧l[i+1]? = some 46
 | []=>by simp [Lib.index]
 | b :: l=>by
  have ih:=index_dots l
  have hge:=Lib.index_ge l [46,46]
  unfold Lib.index
  cases hp:([46,46]:List UInt8).isPrefixOf (b :: l) with
  | true=>
   simp only [if_true,Int.le_refl,true_iff]
   cases l with
   | nil=>simp [List.isPrefixOf] at hp
   | cons c t=>
    simp [List.isPrefixOf] at hp
    exact⟨0,by simp [hp.1.symm],by simp [hp.2.symm]⟩
  | false=>
   have h0:∀i:Nat,(b :: l)[i]? = some 46∧(b :: l)[i+1]? = some 46→∃j,i=j+1:=fun i hi=>by
    cases i with
    | succ j=>exact⟨j,rfl⟩
    | zero=>
     exfalso
     simp only [List.getElem?_cons_zero,List.getElem?_cons_succ,Nat.zero_add] at hi
     cases l with
     | nil=>simp at hi
     | cons c t=>
      simp at hi
      rw [hi.1,hi.2] at hp
      simp [List.isPrefixOf] at hp
   have e:(∃i:Nat,(b :: l)[i]? = some 46∧(b :: l)[i+1]? = some 46)↔∃i:Nat,l[i]? = some 46∧l[i+1]? = some 46:=by
    constructor
    ·rintro ⟨i,hi⟩
     obtain⟨j,rfl⟩:=h0 i hi
     exact⟨j,by simpa using hi⟩
    ·rintro ⟨i,hi⟩
     exact⟨i+1,by simpa using hi⟩
   rw [e,←ih]
   simp only [Bool.false_eq_true,if_false]
   by_cases h:Lib.index l [46,46]=-1
   ·rw [h];decide
   ·have hq:(Lib.index l [46,46] == -1)=false:=by rw [beq_eq_false_iff_ne];exact h
    rw [hq]
    simp only [Bool.false_eq_true,if_false]
    constructor <;> intro _ <;> omega
def dotAt (s:ByteArray) (i:Nat):Bool:=decide (0 < i) && (b_at s i == 46) && (b_at s (i - 1) == 46)
theorem dots_law (s:ByteArray):Lib.contains s.data.toList [46,46]=(List.range s.size).any (dotAt s):=by
 have hg:∀i,i < s.size→s.data.toList[i]? = some (s.get! i):=fun i h=>by
  have hl:i < s.data.toList.length:=h
  rw [List.getElem?_eq_getElem hl]
  show _=some s.data[i]!
  rw [getElem!_pos s.data i h]
  rfl
 have h46:∀b:UInt8,b=46↔b.toNat=46:=fun b=>by rw [←UInt8.toNat_inj];rfl
 unfold Lib.contains
 rw [Bool.eq_iff_iff,decide_eq_true_eq,index_dots,List.any_eq_true]
 constructor
 ·rintro ⟨i,h1,h2⟩
  have hi:=(List.getElem?_eq_some_iff.1 h2).1
  have hi':i+1 < s.size:=hi
  rw [hg _ hi'] at h2
  rw [hg _ (by omega)] at h1
  simp only [Option.some.injEq] at h1 h2
  refine⟨i+1,List.mem_range.2 hi',?_⟩
  unfold dotAt b_at
  simp [(h46 _).1 h1,(h46 _).1 h2]
 ·rintro ⟨i,hi,h⟩
  rw [List.mem_range] at hi
  unfold dotAt b_at at h
  simp only [Bool.and_eq_true,decide_eq_true_eq,beq_iff_eq] at h
  obtain⟨⟨h1,h2⟩,h3⟩:=h
  refine⟨i - 1,?_,?_⟩
  ·rw [hg _ (by omega),(h46 _).2 h3]
  ·rw [show i - 1+1=i by omega,hg _ hi,(h46 _).2 h2]
end Go.Proofs.YtnmnpnofdgdigaaGreatDoor
end
section
namespace Go.Proofs.YtnmnpnofdgdigaaGreatDoor
open Go.RowKit
set_option linter.unusedSimpArgs false
set_option linter.unusedVariables false
theorem ret_two {v v' u u':Value} (h:v=v') (k:u=u'):Ending.returned (.tuple #[v,u])=.returned (.tuple #[v',u']):=by rw [h,k]
theorem refmay_any (n:Int) (w:World):Calls Tryz.prog 207 #[.int .i64 n] w fun e w'=>e=.returned (.bool (mayP n))∧w=w':=by
 by_cases h:n < 32
 ·have HM:Box (mayP n=decide (n=9∨n=10∨n=13)):=⟨if_pos h⟩
  generalize mayP n=r at *
  go_enter Tryz.func207,Tryz.ntmps207
  go_wp2
  all_goals
   go_ret
   exact⟨ret_bool (by rw [HM.out];first|rfl|decide|(rw [Bool.eq_iff_iff];simp only [Bool.and_eq_true,Bool.or_eq_true,Bool.not_eq_true',Bool.not_eq_true,decide_eq_true_eq,decide_eq_false_iff_not,beq_iff_eq,bne_iff_ne,beq_eq_false_iff_ne,bne_eq_false_iff_eq,Bool.false_eq_true,ne_eq,true_and,and_true,false_or,or_false,reduceCtorEq,false_iff,true_iff,iff_false,iff_true];omega)|(simp;done)|(simp;omega)),rfl⟩
 ·have HM:Box (mayP n=decide (n≤1114111∧(n < 55296∨57343 < n)∧n≠65534∧n≠65535)):=⟨if_neg h⟩
  generalize mayP n=r at *
  go_enter Tryz.func207,Tryz.ntmps207
  go_wp2
  all_goals
   go_ret
   exact⟨ret_bool (by rw [HM.out];first|rfl|decide|(rw [Bool.eq_iff_iff];simp only [Bool.and_eq_true,Bool.or_eq_true,Bool.not_eq_true',Bool.not_eq_true,decide_eq_true_eq,decide_eq_false_iff_not,beq_iff_eq,bne_iff_ne,beq_eq_false_iff_ne,bne_eq_false_iff_eq,Bool.false_eq_true,ne_eq,true_and,and_true,false_or,or_false,reduceCtorEq,false_iff,true_iff,iff_false,iff_true];omega)|(simp;done)|(simp;omega)),rfl⟩
theorem refhead_any (c:Int) (w:World) (h0:0≤c) (h1:c < 256):Calls Tryz.prog 206 #[.int .i64 c] w fun e w'=>e=.returned (.tuple #[.int .i64 (headN c),.int .i64 (headV c)])∧w=w':=by
 have hc:∃a b,headN c=a∧headV c=b∧((c < 128∧a=1∧b=c)∨(128≤c∧c < 192∧a=0∧b=0)∨(192≤c∧c < 224∧a=2∧b=c - 192)∨(224≤c∧c < 240∧a=3∧b=c - 224)∨(240≤c∧c < 248∧a=4∧b=c - 240)∨(248≤c∧a=0∧b=0)):=by
  refine⟨_,_,rfl,rfl,?_⟩
  unfold headN headV
  repeat' split
  all_goals omega
 obtain⟨a,b,h1',h2',hc⟩:=hc
 rw [h1',h2']
 clear h1' h2'
 rcases hc with ⟨h,rfl,rfl⟩|⟨h,h',rfl,rfl⟩|⟨h,h',rfl,rfl⟩|⟨h,h',rfl,rfl⟩|⟨h,h',rfl,rfl⟩|⟨h,rfl,rfl⟩
 all_goals
  go_enter Tryz.func206,Tryz.ntmps206
  go_wp2
  go_ret2
  exact⟨rfl,rfl⟩
theorem refsix_any (n:Int) (k:Nat) (w:World) (h0:0≤n) (h1:n < 16777216) (hk:k≤3):Calls Tryz.prog 223 #[.int .i64 n,.int .i64 k] w fun e w'=>e=.returned (.int .u8 (128+n / 64 ^ k % 64))∧w=w':=by
 go_enter Tryz.func223,Tryz.ntmps223
 go_wp2
 go_loop [0,5] (fun m i=>∃j:Nat,j≤k∧i=.int .i64 j∧m=.int .i64 (n / 64 ^ j)) (fun _ i=>k - (intOf i).toNat)
 case atStart=>exact⟨0,Nat.zero_le _,rfl,by simp⟩
 case round=>
  obtain⟨j,hj,rfl,rfl⟩:=hrel
  have hp:(0:Int) < 64 ^ j:=Int.pow_pos (by omega)
  have hd0:0≤n / 64 ^ j:=Int.ediv_nonneg h0 (Int.le_of_lt hp)
  have hd1:n / 64 ^ j≤n:=Int.ediv_le_self _ h0
  have HS:Box (n / 64 ^ (j+1)=n / 64 ^ j / 64):=⟨by rw [Int.pow_succ,Int.ediv_ediv_of_nonneg (Int.le_of_lt hp)]⟩
  clear hp
  by_cases hlt:j < k
  ·generalize n / 64 ^ j=m at *
   go_wp2
   go_round
   case rel=>exact⟨j+1,by omega,by go_num,by rw [HS.out]⟩
   case measure=>simp [intOf];omega
  ·obtain rfl:j=k:=by omega
   clear HS
   obtain⟨m,hm⟩:∃m,m=n / 64 ^ j:=⟨_,rfl⟩
   have HM:=Box.mk hm
   rw [←hm] at hd0 hd1 ⊢
   clear hm
   go_wp2
   go_ret
   exact⟨ret_int (by rw [←HM.out]),rfl⟩
theorem six0 (n:Int):n / 64 ^ 0 % 64=n % 64:=by rw [Int.pow_zero,Int.ediv_one]
theorem six1 (n:Int):n / 64 ^ 1 % 64=n / 64 % 64:=by rw [Int.pow_succ,Int.pow_zero,Int.one_mul]
theorem six2 (n:Int):n / 64 ^ 2 % 64=n / 4096 % 64:=by rw [show(64:Int) ^ 2=4096 by decide]
def BytesPost (l:List Int) (w:World) (e:Ending) (w':World):Prop:=∃A c,e=.returned (.slice A l.length c)∧Rd w' w'.heap.size 1 A l.length (ints .u8 l)∧Below w.heap.size w w'∧l.length≤c
theorem BytesPost.new (l:List Int) (w:World) (t:TypeId):BytesPost l w (.returned (.slice (some ⟨w.heap.size,0,none⟩) l.length l.length)) (w.alloc (.cells (ints .u8 l).toArray t)):=by
 have h:=Rd.new w t (ints .u8 l).toArray (s:=1) (n:=l.length) (by simp [ints])
 exact⟨_,_,rfl,by simpa using h,(Below.refl _ _).alloc (Nat.le_refl _) _,Nat.le_refl _⟩
theorem refbytes_any (n:Int) (w:World) (h0:0≤n) (h1:n < 2097152):Calls Tryz.prog 208 #[.int .i64 n] w (BytesPost (bytesU n) w):=by
 have S0:=Lib.hid (fun W=>refsix_any n 0 W h0 (by omega) (by omega))
 have S1:=Lib.hid (fun W=>refsix_any n 1 W h0 (by omega) (by omega))
 have S2:=Lib.hid (fun W=>refsix_any n 2 W h0 (by omega) (by omega))
 rw [six0] at S0
 rw [six1] at S1
 rw [six2] at S2
 have hc:n < 128∨(128≤n∧n < 2048)∨(2048≤n∧n < 65536)∨65536≤n:=by omega
 rcases hc with h|⟨h,h'⟩|⟨h,h'⟩|h
 ·have HX:Box (bytesU n=[n]):=⟨by unfold bytesU;rw [if_pos h]⟩
  generalize bytesU n=L at *
  go_enter Tryz.func208,Tryz.ntmps208
  go_wp2
  go_ret
  rw [HX.out]
  exact BytesPost.new _ w _
 ·have HX:Box (bytesU n=[192+n / 64,128+n % 64]):=⟨by unfold bytesU;rw [if_neg (by omega),if_pos h']⟩
  generalize bytesU n=L at *
  have hd:n / 64≤31:=by omega
  go_enter Tryz.func208,Tryz.ntmps208
  go_wp2_with fail
  refine(S0.out _).mono ?_
  rintro e w1 ⟨rfl,rfl⟩
  go_wp2
  go_ret
  rw [HX.out]
  exact BytesPost.new _ w _
 ·have HX:Box (bytesU n=[224+n / 4096,128+n / 64 % 64,128+n % 64]):=⟨by unfold bytesU;rw [if_neg (by omega),if_neg (by omega),if_pos h']⟩
  generalize bytesU n=L at *
  have hd:n / 4096≤15:=by omega
  go_enter Tryz.func208,Tryz.ntmps208
  go_wp2_with fail
  refine(S1.out _).mono ?_
  rintro e w1 ⟨rfl,rfl⟩
  go_wp2_with fail
  refine(S0.out _).mono ?_
  rintro e w1 ⟨rfl,rfl⟩
  go_wp2
  go_ret
  rw [HX.out]
  exact BytesPost.new _ w _
 ·have HX:Box (bytesU n=[240+n / 262144,128+n / 4096 % 64,128+n / 64 % 64,128+n % 64]):=⟨by unfold bytesU;rw [if_neg (by omega),if_neg (by omega),if_neg (by omega)]⟩
  generalize bytesU n=L at *
  have hd:n / 262144≤7:=by omega
  go_enter Tryz.func208,Tryz.ntmps208
  go_wp2_with fail
  refine(S2.out _).mono ?_
  rintro e w1 ⟨rfl,rfl⟩
  go_wp2_with fail
  refine(S1.out _).mono ?_
  rintro e w1 ⟨rfl,rfl⟩
  go_wp2_with fail
  refine(S0.out _).mono ?_
  rintro e w1 ⟨rfl,rfl⟩
  go_wp2
  go_ret
  rw [HX.out]
  exact BytesPost.new _ w _
end Go.Proofs.YtnmnpnofdgdigaaGreatDoor
end
section
namespace Go.Proofs.YtnmnpnofdgdigaaGreatDoor
open Go.RowKit
set_option linter.unusedSimpArgs false
set_option linter.unusedVariables false
theorem BytesPost.ty {l:List Int} {w w':World} {e:Ending} (h:BytesPost l w e w'):∃v,e=.returned v∧Ext w w'∧Ty.of (SlT .u8 l) v w':=by
 obtain⟨A,c,rfl,hr,hb,_⟩:=h
 exact⟨_,rfl,hb,A,c,rfl,hr⟩
theorem str_ne (s:ByteArray) (h:0 < s.size):s.toList.isEmpty=false:=by
 have:s.toList.length=s.size:=by rw [ByteArray.toList_eq s];cases s;rfl
 cases e:s.toList with
 | nil=>rw [e] at this;simp at this;omega
 | cons a l=>rfl
theorem at_eq (s:ByteArray) (k:Nat) (h:k < s.size):(s[k]'h).toNat=b_at s k:=by
 show(s[k]'h).toNat=(s.get! k).toNat
 congr 1
 simp [ByteArray.get!,ByteArray.getElem_eq_getElem_data,h]
theorem bytes_eq {a b:ByteArray} (h:a.toList=b.toList):a=b:=by
 rw [ByteArray.toList_eq,ByteArray.toList_eq] at h
 cases a;cases b
 congr 1
 exact Array.ext' h
theorem bytesU_b8 (n:Int) (h0:0≤n) (h1:n < 2097152):B8 (bytesU n):=by
 intro x hx
 unfold bytesU at hx
 split at hx
 ·simp at hx;omega
 ·split at hx
  ·simp at hx;omega
  ·split at hx
   ·simp at hx;omega
   ·simp at hx;omega
def oneN (s:ByteArray):Int:=if okAt s 0 then((Utf8.decode s 0).1:Int) else 0
def oneZ (s:ByteArray):Int:=if okAt s 0 then((Utf8.decode s 0).2:Int) else 0
theorem valU_rng (s:ByteArray) (h:0 < s.size):∀k:Nat,k≤3→0≤valU (numsOf s) k∧valU (numsOf s) k < 128*64 ^ k
 | 0,_=>by
  unfold valU headV
  rw [nums_at s 0 h]
  have:=b_lt s 0
  repeat' split
  all_goals omega
 | k+1,hk=>by
  have ih:=valU_rng s h k (by omega)
  unfold valU
  rw [Int.pow_succ]
  have hx:0≤(numsOf s).getD (k+1) 0 % 64∧(numsOf s).getD (k+1) 0 % 64 < 64:=by omega
  generalize (64:Int) ^ k=p at *
  omega
theorem str_take (s:ByteArray) (k:Nat) (h:k≤s.size):strOfNums ((numsOf s).take k)=s.extract 0 k:=by
 apply numsOf_inj
 rw [numsOf_str (fun x hx=>numsOf_b8 s x (List.mem_of_mem_take hx))]
 unfold numsOf
 rw [←List.map_take]
 congr 1
 simp [ByteArray.extract,ByteArray.copySlice]
set_option maxHeartbeats 1000000 in
set_option maxRecDepth 10000 in
theorem refone_any (s:ByteArray) (w:World) (h:0 < s.size) (hs:s.size≤1000000000):Calls Tryz.prog 185 #[.string s] w fun e w'=>e=.returned (.tuple #[.int .i64 (oneN s),.int .i64 (oneZ s)])∧Below w.heap.size w w':=by
 obtain⟨z,hz⟩:∃z,z=headN ((numsOf s).getD 0 0):=⟨_,rfl⟩
 have hne:=str_ne s h
 have hb:=b_lt s 0
 have hx0:=at_eq s 0 h
 have HH:=Lib.hid (fun W=>refhead_any (b_at s 0:Int) W (by omega) (by omega))
 rw [←nums_at s 0 h,←hz,nums_at s 0 h] at HH
 rcases one_law s h z hz with ⟨hz1,ho⟩|⟨hz1,hz4,hzs,⟨hv0,hv1⟩,hr⟩
 ·have HN:Box (oneN s=0):=⟨by unfold oneN;rw [ho];rfl⟩
  have HZ:Box (oneZ s=0):=⟨by unfold oneZ;rw [ho];rfl⟩
  generalize oneN s=N1 at *
  generalize oneZ s=Z1 at *
  generalize headV (b_at s 0:Int)=V at *
  clear ho hz
  rcases hz1 with rfl|hz1
  ·go_enter Tryz.func185,Tryz.ntmps185
   go_wp2_with fail
   refine(HH.out _).mono ?_
   rintro e w1 ⟨rfl,rfl⟩
   go_wp2
   go_ret2
   exact⟨by rw [HN.out,HZ.out];rfl,Below.refl _ _⟩
  ·have hz0:¬z=0:=by omega
   go_enter Tryz.func185,Tryz.ntmps185
   go_wp2_with fail
   refine(HH.out _).mono ?_
   rintro e w1 ⟨rfl,rfl⟩
   go_wp2
   go_ret2
   exact⟨by rw [HN.out,HZ.out];rfl,Below.refl _ _⟩
 ·obtain⟨m,rfl⟩:∃m:Nat,z=((m+1:Nat):Int):=⟨z.toNat - 1,by omega⟩
  rw [show(((m+1:Nat):Int).toNat - 1)=m by omega] at hv0 hv1 hr
  rw [show((m+1:Nat):Int).toNat=m+1 by omega] at hr
  have HV0:Hid (headV (b_at s 0:Int)=valU (numsOf s) 0):=by show _=_;unfold valU;rw [nums_at s 0 h]
  have HMS:=Lib.hid (show m+1≤s.size by omega)
  have HR:=Lib.hid hr
  have hm4:m+1≤4:=by omega
  have hq0:((m:Int)+1 == 0)=false:=by rw [beq_eq_false_iff_ne];omega
  have hq1:(m:Int)+1≤(s.size:Int):=by omega
  clear hz hr
  generalize headV (b_at s 0:Int)=V at *
  go_enter Tryz.func185,Tryz.ntmps185
  go_wp2_with fail
  refine(HH.out _).mono ?_
  rintro e w1 ⟨rfl,rfl⟩
  clear hx0 hb
  go_wp2
  rw [HV0.out]
  go_loop [5,6] (fun n i=>∃k:Nat,k≤m∧i=.int .i64 ((k:Int)+1)∧n=.int .i64 (valU (numsOf s) k)) (fun _ i=>m+2 - (intOf i).toNat)
  case atStart=>exact⟨0,Nat.zero_le _,rfl,rfl⟩
  case round=>
   obtain⟨k,hk,rfl,rfl⟩:=hrel
   by_cases hlt:k < m
   ·have hx:=at_eq s (k+1) (by omega)
    have hb:=b_lt s (k+1)
    have hr:=valU_rng s h k (by omega)
    have hr2:valU (numsOf s) k < 128*4096:=by
     have:(64:Int) ^ k≤4096:=by
      rcases (by omega:k=0∨k=1∨k=2) with rfl|rfl|rfl <;> decide
     omega
    have HS:Hid (valU (numsOf s) (k+1)=64*valU (numsOf s) k+(b_at s (k+1):Int) % 64):=by show _=_;rw [←nums_at s (k+1) (by omega)];rfl
    have hr0:=hr.1
    clear hr
    generalize valU (numsOf s) k=n at *
    go_wp2
    go_round
    case rel=>exact⟨k+1,by omega,by go_num,by rw [HS.out]⟩
    case measure=>simp [intOf];omega
   ·obtain rfl:k=m:=by omega
    have hfr:∀W,(Instr.slice 9 (.string s) none (some (.int .i64 ((k:Int)+1))) none).run Tryz.prog W=.ok (.string (s.extract 0 (k+1))) W:=fun W=>by
     have h1:=run_slice_string_h (P:=Tryz.prog) (w:=W) (t:=9) (s:=s) Tryz.underlying9 .i64 ((k:Int)+1) (by omega) (by omega)
     rwa [show((k:Int)+1).toNat=k+1 by omega] at h1
    rcases HR.out with ⟨h1,h2,ho,h3,h4⟩|⟨h1,ho⟩
    ·have HN:Box (oneN s=valU (numsOf s) k):=⟨by unfold oneN;rw [ho];exact h3⟩
     have HZ:Box (oneZ s=(k:Int)+1):=⟨by unfold oneZ;rw [ho];simpa using h4⟩
     have HM:=Lib.hid (fun W=>refmay_any (valU (numsOf s) k) W)
     have HB:=Lib.hid (fun W=>refbytes_any (valU (numsOf s) k) W hv0 hv1)
     rw [h1] at HM
     rw [h2] at HB
     have HE:Hid (strOfNums ((numsOf s).take (k+1))=s.extract 0 (k+1)):=str_take s (k+1) HMS.out
     clear h1 h2 h3 h4 ho HR HH HV0
     generalize (numsOf s).take (k+1)=L at *
     generalize valU (numsOf s) k=n at *
     go_wp2_with fail
     refine wp_region_typed rfl (by kernel_rfl) (by kernel_rfl) ?_
     repeat (first|refine tw_skip (wd_no rfl rfl rfl) ?_|refine tw_mv (.inl rfl) rfl (wdA rfl) ?_|refine tw_mv (.inr rfl) rfl (wdA rfl) ?_|refine tw_pickL rfl rfl rfl (wdA rfl) ?_|refine tw_op1 _ rfl rfl (wdA rfl) (fun ρ W hW h1=>by simp only [execOp,h1];go_simp;first|done|rfl) ?_|refine tw_op2 _ rfl rfl rfl (wdA rfl) (fun ρ W hW h1 h2=>by simp only [execOp,h1,h2];go_simp;first|done|rfl) ?_)
     refine tw_fn0 #[.int .i64 n] (.bool true) rfl (fun W=>by go_simp) rfl (wdA rfl) (fun W _=>HM.out W) ?_
     repeat (first|refine tw_skip (wd_no rfl rfl rfl) ?_|refine tw_mv (.inl rfl) rfl (wdA rfl) ?_|refine tw_mv (.inr rfl) rfl (wdA rfl) ?_|refine tw_pickL rfl rfl rfl (wdA rfl) ?_|refine tw_op1 _ rfl rfl (wdA rfl) (fun ρ W hW h1=>by simp only [execOp,h1];go_simp;first|done|rfl) ?_|refine tw_op2 _ rfl rfl rfl (wdA rfl) (fun ρ W hW h1 h2=>by simp only [execOp,h1,h2];go_simp;first|done|rfl) ?_)
     refine tw_fn #[.int .i64 n] (SlT .u8 L) (stable_sl _ _) rfl (fun W=>by go_simp) rfl (wdA rfl) (fun W _=>(HB.out W).mono fun e w' h=>h.ty) ?_
     refine tw_conv L rfl rfl (wdA rfl) ?_
     rw [HE.out]
     repeat (first|refine tw_skip (wd_no rfl rfl rfl) ?_|refine tw_mv (.inl rfl) rfl (wdA rfl) ?_|refine tw_mv (.inr rfl) rfl (wdA rfl) ?_|refine tw_pickL rfl rfl rfl (wdA rfl) ?_|refine tw_op1 _ rfl rfl (wdA rfl) (fun ρ W hW h1=>by simp only [execOp,h1];go_simp;first|done|rfl) ?_|refine tw_op2 _ rfl rfl rfl (wdA rfl) (fun ρ W hW h1 h2=>by simp only [execOp,h1,h2];go_simp;first|done|rfl) ?_)
     refine tw_op2 (x:=.tmp 44) (y:=.tmp 45) (c:=.string s) (e:=.int .i64 ((k:Int)+1)) (.string (s.extract 0 (k+1))) rfl rfl rfl (wdA rfl) (fun ρ W hW h1 h2=>by simp only [execOp,h1,h2,Option.map];go_simp) ?_
     repeat (first|refine tw_skip (wd_no rfl rfl rfl) ?_|refine tw_mv (.inl rfl) rfl (wdA rfl) ?_|refine tw_mv (.inr rfl) rfl (wdA rfl) ?_|refine tw_pickL rfl rfl rfl (wdA rfl) ?_|refine tw_op1 _ rfl rfl (wdA rfl) (fun ρ W hW h1=>by simp only [execOp,h1];go_simp;first|done|rfl) ?_|refine tw_op2 _ rfl rfl rfl (wdA rfl) (fun ρ W hW h1 h2=>by simp only [execOp,h1,h2];go_simp;first|done|rfl) ?_)
     dsimp only [wpT,List.reverse,List.reverseAux,FinT]
     intro v42 W hW _
     simp only [Act.put,List.setIfInBounds_toArray,List.set_cons_zero,List.set_cons_succ]
     have XW:=Lib.hid ((Below.refl w.heap.size w).drew.trans (Below.mono hW (Nat.le_refl _)))
     clear hW
     go_wp2
     go_ret2
     exact⟨by rw [HN.out,HZ.out];rfl,XW.out⟩
    ·have HN:Box (oneN s=0):=⟨by unfold oneN;rw [ho];rfl⟩
     have HZ:Box (oneZ s=0):=⟨by unfold oneZ;rw [ho];rfl⟩
     have HM:=Lib.hid (fun W=>refmay_any (valU (numsOf s) k) W)
     have HE:Hid (strOfNums ((numsOf s).take (k+1))=s.extract 0 (k+1)):=str_take s (k+1) HMS.out
     cases hm:mayP (valU (numsOf s) k) with
     | false=>
      rw [hm] at HM
      clear h1 ho HR HH HV0 hm HE
      generalize valU (numsOf s) k=n at *
      go_wp2_with fail
      refine wp_region_typed rfl (by kernel_rfl) (by kernel_rfl) ?_
      repeat (first|refine tw_skip (wd_no rfl rfl rfl) ?_|refine tw_mv (.inl rfl) rfl (wdA rfl) ?_|refine tw_mv (.inr rfl) rfl (wdA rfl) ?_|refine tw_pickL rfl rfl rfl (wdA rfl) ?_|refine tw_op1 _ rfl rfl (wdA rfl) (fun ρ W hW h1=>by simp only [execOp,h1];go_simp;first|done|rfl) ?_|refine tw_op2 _ rfl rfl rfl (wdA rfl) (fun ρ W hW h1 h2=>by simp only [execOp,h1,h2];go_simp;first|done|rfl) ?_)
      refine tw_fn0 #[.int .i64 n] (.bool false) rfl (fun W=>by go_simp) rfl (wdA rfl) (fun W _=>HM.out W) ?_
      repeat (first|refine tw_skip (wd_no rfl rfl rfl) ?_|refine tw_mv (.inl rfl) rfl (wdA rfl) ?_|refine tw_mv (.inr rfl) rfl (wdA rfl) ?_|refine tw_pickL rfl rfl rfl (wdA rfl) ?_|refine tw_op1 _ rfl rfl (wdA rfl) (fun ρ W hW h1=>by simp only [execOp,h1];go_simp;first|done|rfl) ?_|refine tw_op2 _ rfl rfl rfl (wdA rfl) (fun ρ W hW h1 h2=>by simp only [execOp,h1,h2];go_simp;first|done|rfl) ?_)
      dsimp only [wpT,List.reverse,List.reverseAux,FinT]
      intro W hW _
      simp only [Act.put,List.setIfInBounds_toArray,List.set_cons_zero,List.set_cons_succ]
      have XW:=Lib.hid ((Below.refl w.heap.size w).drew.trans (Below.mono hW (Nat.le_refl _)))
      clear hW
      go_wp2
      go_ret2
      exact⟨by rw [HN.out,HZ.out];rfl,XW.out⟩
     | true=>
      rw [hm] at HM
      have hb:((strOfNums (bytesU (valU (numsOf s) k))).toList != (s.extract 0 (k+1)).toList)=true:=by
       rw [bne_iff_ne]
       intro e
       rcases h1 with h1|h1
       ·rw [hm] at h1;cases h1
       ·exact h1 (str_inj (bytesU_b8 _ hv0 hv1) (fun x hx=>numsOf_b8 s x (List.mem_of_mem_take hx)) (by rw [HE.out];exact bytes_eq e))
      have HB:=Lib.hid (fun W=>refbytes_any (valU (numsOf s) k) W hv0 hv1)
      clear h1 ho HR HH HV0 hm HE
      generalize bytesU (valU (numsOf s) k)=L at *
      generalize valU (numsOf s) k=n at *
      go_wp2_with fail
      refine wp_region_typed rfl (by kernel_rfl) (by kernel_rfl) ?_
      repeat (first|refine tw_skip (wd_no rfl rfl rfl) ?_|refine tw_mv (.inl rfl) rfl (wdA rfl) ?_|refine tw_mv (.inr rfl) rfl (wdA rfl) ?_|refine tw_pickL rfl rfl rfl (wdA rfl) ?_|refine tw_op1 _ rfl rfl (wdA rfl) (fun ρ W hW h1=>by simp only [execOp,h1];go_simp;first|done|rfl) ?_|refine tw_op2 _ rfl rfl rfl (wdA rfl) (fun ρ W hW h1 h2=>by simp only [execOp,h1,h2];go_simp;first|done|rfl) ?_)
      refine tw_fn0 #[.int .i64 n] (.bool true) rfl (fun W=>by go_simp) rfl (wdA rfl) (fun W _=>HM.out W) ?_
      repeat (first|refine tw_skip (wd_no rfl rfl rfl) ?_|refine tw_mv (.inl rfl) rfl (wdA rfl) ?_|refine tw_mv (.inr rfl) rfl (wdA rfl) ?_|refine tw_pickL rfl rfl rfl (wdA rfl) ?_|refine tw_op1 _ rfl rfl (wdA rfl) (fun ρ W hW h1=>by simp only [execOp,h1];go_simp;first|done|rfl) ?_|refine tw_op2 _ rfl rfl rfl (wdA rfl) (fun ρ W hW h1 h2=>by simp only [execOp,h1,h2];go_simp;first|done|rfl) ?_)
      refine tw_fn #[.int .i64 n] (SlT .u8 L) (stable_sl _ _) rfl (fun W=>by go_simp) rfl (wdA rfl) (fun W _=>(HB.out W).mono fun e w' h=>h.ty) ?_
      refine tw_conv L rfl rfl (wdA rfl) ?_
      repeat (first|refine tw_skip (wd_no rfl rfl rfl) ?_|refine tw_mv (.inl rfl) rfl (wdA rfl) ?_|refine tw_mv (.inr rfl) rfl (wdA rfl) ?_|refine tw_pickL rfl rfl rfl (wdA rfl) ?_|refine tw_op1 _ rfl rfl (wdA rfl) (fun ρ W hW h1=>by simp only [execOp,h1];go_simp;first|done|rfl) ?_|refine tw_op2 _ rfl rfl rfl (wdA rfl) (fun ρ W hW h1 h2=>by simp only [execOp,h1,h2];go_simp;first|done|rfl) ?_)
      refine tw_op2 (x:=.tmp 44) (y:=.tmp 45) (c:=.string s) (e:=.int .i64 ((k:Int)+1)) (.string (s.extract 0 (k+1))) rfl rfl rfl (wdA rfl) (fun ρ W hW h1 h2=>by simp only [execOp,h1,h2,Option.map];go_simp) ?_
      refine tw_op2 (x:=.tmp 43) (y:=.tmp 46) (c:=.string (strOfNums L)) (e:=.string (s.extract 0 (k+1))) (.bool true) rfl rfl rfl (wdA rfl) (fun ρ W hW h1 h2=>by simp only [execOp,h1,h2];go_simp;simpa using hb) ?_
      repeat (first|refine tw_skip (wd_no rfl rfl rfl) ?_|refine tw_mv (.inl rfl) rfl (wdA rfl) ?_|refine tw_mv (.inr rfl) rfl (wdA rfl) ?_|refine tw_pickL rfl rfl rfl (wdA rfl) ?_|refine tw_op1 _ rfl rfl (wdA rfl) (fun ρ W hW h1=>by simp only [execOp,h1];go_simp;first|done|rfl) ?_|refine tw_op2 _ rfl rfl rfl (wdA rfl) (fun ρ W hW h1 h2=>by simp only [execOp,h1,h2];go_simp;first|done|rfl) ?_)
      dsimp only [wpT,List.reverse,List.reverseAux,FinT]
      intro v42 W hW _
      simp only [Act.put,List.setIfInBounds_toArray,List.set_cons_zero,List.set_cons_succ]
      have XW:=Lib.hid ((Below.refl w.heap.size w).drew.trans (Below.mono hW (Nat.le_refl _)))
      clear hW
      go_wp2
      go_ret2
      exact⟨by rw [HN.out,HZ.out];rfl,XW.out⟩
end Go.Proofs.YtnmnpnofdgdigaaGreatDoor
end
section
namespace Go.Proofs.YtnmnpnofdgdigaaGreatDoor
open Go.RowKit
set_option linter.unusedSimpArgs false
set_option linter.unusedVariables false
theorem info_i64:(Tryz.prog.info? 3).map (fun i=>(i.zero,i.size,i.bytes))=some (some (.int .i64 0),1,8):=by kernel_rfl
theorem app_i64s {w:World} {ops:Array Oper} {rest:List Oper} {o:Oper} {a:Act} {Q:Exit→Act→World→Prop} (hgd:o.guard=none) (s x:Operand)
  (ho:o.op=.call { callee:=.builtin .append,args:=#[s,x],argTypes:=#[121,121]})
  (base:Nat) (v:Value) (n:Nat) (xs:List Int) (hs:a.eval s=v) (hown:w.ownsRow base 3 1 v n (ints .i64 xs))
  (B:Nat) (A:Option Addr) (m c:Nat) (news:List Int) (hx:a.eval x=.slice A m c) (hr:Rd w B 1 A m (ints .i64 news)) (hb:n+m≤1000000000000) (hbase:base≤w.heap.size)
  (h:∀v' w',w'.ownsRow base 3 1 v' (n+m) (ints .i64 (xs++news))→w.grownBy w' v.ownBlock→(v'.ownBlock=v.ownBlock∨v'.ownBlock=some w.heap.size)→wpList Tryz.prog ops Q rest (a.put o.dst v') w'):wpList Tryz.prog ops Q (o :: rest) a w:=by
 obtain⟨i0,hi,hz0,hz1,hz2⟩:=info_parts info_i64
 refine app_wpList w hgd s x _ ho base _ i0 (.int .i64 0) 1 8 Tryz.underlying121 hi hz0 hz1 hz2 rfl (by decide) v n _ hs hown B A m c _ hx hr ints_one (by unfold maxLen;omega) (by omega) hbase ?_
 rw [←ints_append];exact h
def lenS (v:Value):Nat:=match v with
 | .string s=>s.size
 | _=>0
theorem ext_size (s:ByteArray) (i:Nat):(s.extract i s.size).size=s.size - i:=by simp
theorem ext_ext (s:ByteArray) (i d:Nat) (h:i+d≤s.size):(s.extract i s.size).extract d (s.extract i s.size).size=s.extract (i+d) s.size:=by
 rw [ByteArray.extract_extract,ext_size]
 congr 1
 omega
theorem okAt_ext (s:ByteArray) (i:Nat):okAt (s.extract i s.size) 0=okAt s i:=by
 unfold okAt
 rw [Lib.tail_decode]
 rfl
theorem dec_ext (s:ByteArray) (i:Nat):Utf8.decode (s.extract i s.size) 0=Utf8.decode s i:=Lib.tail_decode s i 0
theorem dec_le (s:ByteArray) (h:0 < s.size):(Utf8.decode s 0).2≤s.size - 0:=by
 rw [Lib.decode_at s 0]
 have h':1≤s.size - 0:=by omega
 generalize s.size - 0=n at *
 rcases Lib.decodeN_shape n (s.get! 0).toNat (s.get! (0+1)).toNat (s.get! (0+2)).toNat (s.get! (0+3)).toNat with ⟨_,e⟩|⟨_,_,_,_,e⟩|⟨_,_,_,_,_,_,e⟩|⟨_,_,_,_,_,_,_,e⟩|e <;> rw [e] <;> simp only [] <;> omega
theorem dec_in (s:ByteArray) (i:Nat) (h:i < s.size):i+(Utf8.decode s i).2≤s.size:=by
 rw [←dec_ext s i]
 have:=dec_le (s.extract i s.size) (by rw [ext_size];omega)
 rw [ext_size] at this
 omega
def AllPost (s:ByteArray) (w:World) (e:Ending) (w':World):Prop:=∃v,e=.returned (.tuple #[v,.bool (textOK s)])∧Below w.heap.size w w'
set_option maxHeartbeats 1000000 in
set_option maxRecDepth 10000 in
theorem refall_any (s:ByteArray) (w:World) (hs:s.size≤1000000000):Calls Tryz.prog 148 #[.string s] w (AllPost s w):=by
 go_enter Tryz.func148,Tryz.ntmps148
 go_wp2
 go_loopw [0,4] (fun t v wr=>∃(i:Nat) (l:List Int),i≤s.size∧l.length≤i∧t=.string (s.extract i s.size)∧textAt s i=textOK s∧wr.ownsRow w.heap.size 3 1 v l.length (ints .i64 l)∧Below w.heap.size w wr) (fun t _ _=>lenS t)
 case atStart=>exact⟨0,[],Nat.zero_le _,Nat.le_refl _,by simp,rfl,World.ownsRow_nil _ _ _ _,Below.refl _ _⟩
 case round=>
  obtain⟨i,l,hi,hl,rfl,ht,hown,hb⟩:=hrel
  obtain⟨A,c,rfl⟩:=own_form hown
  have HO:=Lib.hid hown
  have HB:=Lib.hid hb
  have hsz:=hb.size
  by_cases hlt:i < s.size
  ·obtain⟨t,htt⟩:∃t,t=s.extract i s.size:=⟨_,rfl⟩
   have htz:t.size=s.size - i:=by rw [htt,ext_size]
   have hne:=str_ne t (by omega)
   have HON:=Lib.hid (fun W=>refone_any t W (by omega) (by omega))
   have HD:Hid (Utf8.decode t 0=Utf8.decode s i):=by rw [htt];exact dec_ext s i
   have hd:=dec_in s i hlt
   have hp:=dec_pos s i
   have hok:okAt t 0=okAt s i:=by rw [htt,okAt_ext]
   rw [←htt]
   cases ho:okAt s i with
   | false=>
    have HT:Box (textOK s=false):=⟨by rw [←ht,textAt_no s i hlt ho]⟩
    have e2:oneZ t=0:=by unfold oneZ;rw [hok,ho];rfl
    rw [e2] at HON
    clear hown hb ht htt hok ho e2 HO
    generalize oneN t=n1 at *
    go_wp2_with fail
    refine(HON.out _).mono ?_
    rintro e w1 ⟨rfl,hb1⟩
    have X1:=Lib.hid (HB.out.trans (hb1.mono hsz))
    clear hb1
    go_wp2
    go_ret2
    exact⟨_,by rw [HT.out];rfl,X1.out⟩
   | true=>
    have HT:Box (textAt s (i+(Utf8.decode s i).2)=textOK s):=⟨by rw [←ht,textAt_yes s i hlt ho]⟩
    have e2:oneZ t=((Utf8.decode s i).2:Int):=by unfold oneZ;rw [hok,ho,HD.out];rfl
    rw [e2] at HON
    have HE:Box (t.extract (Utf8.decode s i).2 t.size=s.extract (i+(Utf8.decode s i).2) s.size):=⟨by rw [htt];exact ext_ext s i _ hd⟩
    clear hown hb ht htt hok ho e2 HD
    generalize oneN t=n1 at *
    generalize (Utf8.decode s i).2=d at *
    go_wp2_with fail
    refine(HON.out _).mono ?_
    rintro e w1 ⟨rfl,hb1⟩
    have X1:=Lib.hid (HB.out.trans (hb1.mono hsz))
    have ho1:=own_keep HO.out hb1
    have hs1:=X1.out.size
    have hd0:((d:Int) == 0)=false:=by rw [beq_eq_false_iff_ne];omega
    have hdt:(d:Int)≤(t.size:Int):=by omega
    have hrn:Rd (w1.alloc (.cells #[.int .i64 n1] 3)) (w1.heap.size+1) 1 (some ⟨w1.heap.size,0,none⟩) 1 (ints .i64 [n1]):=rd_int1 w1 _ _ _
    clear hb1
    go_wp2_with (at_builtin;refine app_i64s rfl _ _ rfl w.heap.size _ l.length _ rfl (ho1.alloc _) _ _ _ _ _ rfl hrn (by omega) (by simp;omega) ?_)
    intro v' w2 hown2 hg _
    have X2:Hid (Below w.heap.size w w2):=(X1.out.alloc hs1 (.cells #[.int .i64 n1] 3)).grown hg (by simp;omega) (fun q hq=>(HO.out.lt q hq).1)
    have HO2:=Lib.hid hown2
    clear hown2 hg ho1 hrn
    go_wp2
    go_roundw
    case rel=>exact⟨i+d,l++[n1],hd,by simp;omega,by rw [←HE.out,htz],HT.out,by simpa using HO2.out,X2.out⟩
    case measure=>simp [lenS];omega
  ·obtain rfl:i=s.size:=by omega
   have hemp:(s.extract s.size s.size).toList.isEmpty=true:=str_em _ (by simp)
   have HT:Box (textOK s=true):=⟨by rw [←ht,textAt_end s s.size (Nat.le_refl _)]⟩
   clear hown hb ht HO
   go_wp2
   go_ret2
   exact⟨_,by rw [HT.out];rfl,HB.out⟩
theorem refis5_any (s:ByteArray) (w:World) (hs:s.size≤1000000000):Calls Tryz.prog 92 #[.string s] w fun e w'=>e=.returned (.bool (textOK s))∧Below w.heap.size w w':=by
 have H:=Lib.hid (refall_any s w hs)
 go_enter Tryz.func92,Tryz.ntmps92
 go_wp2_with fail
 refine H.out.mono ?_
 rintro e w1 ⟨v,rfl,hb1⟩
 go_wp2
 go_ret
 exact⟨rfl,hb1⟩
theorem refcheck5_any (s:ByteArray) (w:World) (hs:s.size≤1000000000):Calls Tryz.prog 190 #[.string s] w fun e w'=>e=.returned (.int .i64 (textErr s))∧Below w.heap.size w w':=by
 have H:=Lib.hid (refis5_any s w hs)
 by_cases h:16384 < s.size
 ·have h':(16384:Int) < (s.size:Int):=by omega
  have HX:Box (textErr s=4):=⟨by unfold textErr;rw [if_pos h]⟩
  generalize textErr s=r at *
  go_enter Tryz.func190,Tryz.ntmps190
  go_wp2
  go_ret
  exact⟨by rw [HX.out];rfl,Below.refl _ _⟩
 ·have h':¬(16384:Int) < (s.size:Int):=by omega
  have HX:Box (textErr s=if textOK s then 0 else 50):=⟨by unfold textErr;rw [if_neg h]⟩
  generalize textErr s=r at *
  generalize textOK s=b at *
  cases b
  all_goals
   go_enter Tryz.func190,Tryz.ntmps190
   go_wp2_with fail
   refine H.out.mono ?_
   rintro e w1 ⟨rfl,hb1⟩
   go_wp2
   go_ret
   exact⟨by rw [HX.out];rfl,hb1⟩
end Go.Proofs.YtnmnpnofdgdigaaGreatDoor
end
