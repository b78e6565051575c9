/- Part 4 of a proof laid in parts, one behind the other; no condition of its own. -/
import Derived.Test.YtnmnpnofdgdigaaGreatDoorZ03
import Derived.Test.YtnmnpnofdgdigaaGreatDoorZ01
import Derived.Shelf.Strings.Builder1
import Derived.Shelf.Strings.Trim
import Derived.Shelf.Small.Utf8
import Derived.Shelf.Small.Strs
import Derived.Shelf.Strings.BuilderF
import Derived.Shelf.Strconv.Itoa0
import Derived.Shelf.Strconv.Itoa1
import Derived.Shelf.LaysM
import Derived.Shelf.Strconv.Itoa2
import Derived.Shelf.Strconv.Itoa3
import Derived.Shelf.Strings.Search1
import Derived.Shelf.Strings.Search2
import Derived.Shelf.Strings.Search3
import Derived.Shelf.Strings.Cut
import Derived.Shelf.Strings.Shaped
import Derived.Shelf.GgClosure.StringsIndexFunc
import Derived.Ground.GgwProg
import Derived.Shelf.GgClosure.StringsIndexFuncTop
import Derived.Shelf.GgClosure.StringsRunes
import Derived.Shelf.Strings.Prefix
import Derived.Shelf.Strings.Runes
import Derived.Shelf.Strings.AsciiSet
import Derived.Shelf.Unicode.DecodeSlow
import Derived.Shelf.Unicode.DecodeAny
import Derived.Shelf.Unicode.DecodeLast
import Derived.Shelf.Strings.FuncGrows
import Derived.Shelf.Slices.Turned
import Derived.Test.YtnmnpnofdgdigaaGreatDoorProg
set_option linter.all false
section
namespace Go.Proofs.YtnmnpnofdgdigaaGreatDoor
open Go.RowKit
set_option linter.unusedSimpArgs false
set_option linter.unusedVariables false
theorem BytesPost.ty {l:List Int} {w w':World} {e:Ending} (h:BytesPost l w e w'):∃v,e=.returned v∧Ext w w'∧Ty.of (SlT .u8 l) v w':=by
 obtain⟨A,c,rfl,hr,hb,_⟩:=h
 exact⟨_,rfl,hb,A,c,rfl,hr⟩
theorem str_ne (s:ByteArray) (h:0 < s.size):s.toList.isEmpty=false:=by
 have:s.toList.length=s.size:=by rw [ByteArray.toList_eq s];cases s;rfl
 cases e:s.toList with
 | nil=>rw [e] at this;simp at this;omega
 | cons a l=>rfl
theorem at_eq (s:ByteArray) (k:Nat) (h:k < s.size):(s[k]'h).toNat=b_at s k:=by
 show(s[k]'h).toNat=(s.get! k).toNat
 congr 1
 simp [ByteArray.get!,ByteArray.getElem_eq_getElem_data,h]
theorem bytes_eq {a b:ByteArray} (h:a.toList=b.toList):a=b:=by
 rw [ByteArray.toList_eq,ByteArray.toList_eq] at h
 cases a;cases b
 congr 1
 exact Array.ext' h
theorem bytesU_b8 (n:Int) (h0:0≤n) (h1:n < 2097152):B8 (bytesU n):=by
 intro x hx
 unfold bytesU at hx
 split at hx
 ·simp at hx;omega
 ·split at hx
  ·simp at hx;omega
  ·split at hx
   ·simp at hx;omega
   ·simp at hx;omega
def oneN (s:ByteArray):Int:=if okAt s 0 then((Utf8.decode s 0).1:Int) else 0
def oneZ (s:ByteArray):Int:=if okAt s 0 then((Utf8.decode s 0).2:Int) else 0
theorem valU_rng (s:ByteArray) (h:0 < s.size):∀k:Nat,k≤3→0≤valU (numsOf s) k∧valU (numsOf s) k < 128*64 ^ k
 | 0,_=>by
  unfold valU headV
  rw [nums_at s 0 h]
  have:=b_lt s 0
  repeat' split
  all_goals omega
 | k+1,hk=>by
  have ih:=valU_rng s h k (by omega)
  unfold valU
  rw [Int.pow_succ]
  have hx:0≤(numsOf s).getD (k+1) 0 % 64∧(numsOf s).getD (k+1) 0 % 64 < 64:=by omega
  generalize (64:Int) ^ k=p at *
  omega
theorem str_take (s:ByteArray) (k:Nat) (h:k≤s.size):strOfNums ((numsOf s).take k)=s.extract 0 k:=by
 apply numsOf_inj
 rw [numsOf_str (fun x hx=>numsOf_b8 s x (List.mem_of_mem_take hx))]
 unfold numsOf
 rw [←List.map_take]
 congr 1
 simp [ByteArray.extract,ByteArray.copySlice]
set_option maxHeartbeats 1000000 in
set_option maxRecDepth 10000 in
theorem refone_any (s:ByteArray) (w:World) (h:0 < s.size) (hs:s.size≤1000000000):Calls Tryz.prog 185 #[.string s] w fun e w'=>e=.returned (.tuple #[.int .i64 (oneN s),.int .i64 (oneZ s)])∧Below w.heap.size w w':=by
 obtain⟨z,hz⟩:∃z,z=headN ((numsOf s).getD 0 0):=⟨_,rfl⟩
 have hne:=str_ne s h
 have hb:=b_lt s 0
 have hx0:=at_eq s 0 h
 have HH:=Lib.hid (fun W=>refhead_any (b_at s 0:Int) W (by omega) (by omega))
 rw [←nums_at s 0 h,←hz,nums_at s 0 h] at HH
 rcases one_law s h z hz with ⟨hz1,ho⟩|⟨hz1,hz4,hzs,⟨hv0,hv1⟩,hr⟩
 ·have HN:Box (oneN s=0):=⟨by unfold oneN;rw [ho];rfl⟩
  have HZ:Box (oneZ s=0):=⟨by unfold oneZ;rw [ho];rfl⟩
  generalize oneN s=N1 at *
  generalize oneZ s=Z1 at *
  generalize headV (b_at s 0:Int)=V at *
  clear ho hz
  rcases hz1 with rfl|hz1
  ·go_enter Tryz.func185,Tryz.ntmps185
   go_wp2_with fail
   refine(HH.out _).mono ?_
   rintro e w1 ⟨rfl,rfl⟩
   go_wp2
   go_ret2
   exact⟨by rw [HN.out,HZ.out];rfl,Below.refl _ _⟩
  ·have hz0:¬z=0:=by omega
   go_enter Tryz.func185,Tryz.ntmps185
   go_wp2_with fail
   refine(HH.out _).mono ?_
   rintro e w1 ⟨rfl,rfl⟩
   go_wp2
   go_ret2
   exact⟨by rw [HN.out,HZ.out];rfl,Below.refl _ _⟩
 ·obtain⟨m,rfl⟩:∃m:Nat,z=((m+1:Nat):Int):=⟨z.toNat - 1,by omega⟩
  rw [show(((m+1:Nat):Int).toNat - 1)=m by omega] at hv0 hv1 hr
  rw [show((m+1:Nat):Int).toNat=m+1 by omega] at hr
  have HV0:Hid (headV (b_at s 0:Int)=valU (numsOf s) 0):=by show _=_;unfold valU;rw [nums_at s 0 h]
  have HMS:=Lib.hid (show m+1≤s.size by omega)
  have HR:=Lib.hid hr
  have hm4:m+1≤4:=by omega
  have hq0:((m:Int)+1 == 0)=false:=by rw [beq_eq_false_iff_ne];omega
  have hq1:(m:Int)+1≤(s.size:Int):=by omega
  clear hz hr
  generalize headV (b_at s 0:Int)=V at *
  go_enter Tryz.func185,Tryz.ntmps185
  go_wp2_with fail
  refine(HH.out _).mono ?_
  rintro e w1 ⟨rfl,rfl⟩
  clear hx0 hb
  go_wp2
  rw [HV0.out]
  go_loop [5,6] (fun n i=>∃k:Nat,k≤m∧i=.int .i64 ((k:Int)+1)∧n=.int .i64 (valU (numsOf s) k)) (fun _ i=>m+2 - (intOf i).toNat)
  case atStart=>exact⟨0,Nat.zero_le _,rfl,rfl⟩
  case round=>
   obtain⟨k,hk,rfl,rfl⟩:=hrel
   by_cases hlt:k < m
   ·have hx:=at_eq s (k+1) (by omega)
    have hb:=b_lt s (k+1)
    have hr:=valU_rng s h k (by omega)
    have hr2:valU (numsOf s) k < 128*4096:=by
     have:(64:Int) ^ k≤4096:=by
      rcases (by omega:k=0∨k=1∨k=2) with rfl|rfl|rfl <;> decide
     omega
    have HS:Hid (valU (numsOf s) (k+1)=64*valU (numsOf s) k+(b_at s (k+1):Int) % 64):=by show _=_;rw [←nums_at s (k+1) (by omega)];rfl
    have hr0:=hr.1
    clear hr
    generalize valU (numsOf s) k=n at *
    go_wp2
    go_round
    case rel=>exact⟨k+1,by omega,by go_num,by rw [HS.out]⟩
    case measure=>simp [intOf];omega
   ·obtain rfl:k=m:=by omega
    have hfr:∀W,(Instr.slice 9 (.string s) none (some (.int .i64 ((k:Int)+1))) none).run Tryz.prog W=.ok (.string (s.extract 0 (k+1))) W:=fun W=>by
     have h1:=run_slice_string_h (P:=Tryz.prog) (w:=W) (t:=9) (s:=s) Tryz.underlying9 .i64 ((k:Int)+1) (by omega) (by omega)
     rwa [show((k:Int)+1).toNat=k+1 by omega] at h1
    rcases HR.out with ⟨h1,h2,ho,h3,h4⟩|⟨h1,ho⟩
    ·have HN:Box (oneN s=valU (numsOf s) k):=⟨by unfold oneN;rw [ho];exact h3⟩
     have HZ:Box (oneZ s=(k:Int)+1):=⟨by unfold oneZ;rw [ho];simpa using h4⟩
     have HM:=Lib.hid (fun W=>refmay_any (valU (numsOf s) k) W)
     have HB:=Lib.hid (fun W=>refbytes_any (valU (numsOf s) k) W hv0 hv1)
     rw [h1] at HM
     rw [h2] at HB
     have HE:Hid (strOfNums ((numsOf s).take (k+1))=s.extract 0 (k+1)):=str_take s (k+1) HMS.out
     clear h1 h2 h3 h4 ho HR HH HV0
     generalize (numsOf s).take (k+1)=L at *
     generalize valU (numsOf s) k=n at *
     go_wp2_with fail
     refine wp_region_typed rfl (by kernel_rfl) (by kernel_rfl) ?_
     repeat (first|refine tw_skip (wd_no rfl rfl rfl) ?_|refine tw_mv (.inl rfl) rfl (wdA rfl) ?_|refine tw_mv (.inr rfl) rfl (wdA rfl) ?_|refine tw_pickL rfl rfl rfl (wdA rfl) ?_|refine tw_op1 _ rfl rfl (wdA rfl) (fun ρ W hW h1=>by simp only [execOp,h1];go_simp;first|done|rfl) ?_|refine tw_op2 _ rfl rfl rfl (wdA rfl) (fun ρ W hW h1 h2=>by simp only [execOp,h1,h2];go_simp;first|done|rfl) ?_)
     refine tw_fn0 #[.int .i64 n] (.bool true) rfl (fun W=>by go_simp) rfl (wdA rfl) (fun W _=>HM.out W) ?_
     repeat (first|refine tw_skip (wd_no rfl rfl rfl) ?_|refine tw_mv (.inl rfl) rfl (wdA rfl) ?_|refine tw_mv (.inr rfl) rfl (wdA rfl) ?_|refine tw_pickL rfl rfl rfl (wdA rfl) ?_|refine tw_op1 _ rfl rfl (wdA rfl) (fun ρ W hW h1=>by simp only [execOp,h1];go_simp;first|done|rfl) ?_|refine tw_op2 _ rfl rfl rfl (wdA rfl) (fun ρ W hW h1 h2=>by simp only [execOp,h1,h2];go_simp;first|done|rfl) ?_)
     refine tw_fn #[.int .i64 n] (SlT .u8 L) (stable_sl _ _) rfl (fun W=>by go_simp) rfl (wdA rfl) (fun W _=>(HB.out W).mono fun e w' h=>h.ty) ?_
     refine tw_conv L rfl rfl (wdA rfl) ?_
     rw [HE.out]
     repeat (first|refine tw_skip (wd_no rfl rfl rfl) ?_|refine tw_mv (.inl rfl) rfl (wdA rfl) ?_|refine tw_mv (.inr rfl) rfl (wdA rfl) ?_|refine tw_pickL rfl rfl rfl (wdA rfl) ?_|refine tw_op1 _ rfl rfl (wdA rfl) (fun ρ W hW h1=>by simp only [execOp,h1];go_simp;first|done|rfl) ?_|refine tw_op2 _ rfl rfl rfl (wdA rfl) (fun ρ W hW h1 h2=>by simp only [execOp,h1,h2];go_simp;first|done|rfl) ?_)
     refine tw_op2 (x:=.tmp 44) (y:=.tmp 45) (c:=.string s) (e:=.int .i64 ((k:Int)+1)) (.string (s.extract 0 (k+1))) rfl rfl rfl (wdA rfl) (fun ρ W hW h1 h2=>by simp only [execOp,h1,h2,Option.map];go_simp) ?_
     repeat (first|refine tw_skip (wd_no rfl rfl rfl) ?_|refine tw_mv (.inl rfl) rfl (wdA rfl) ?_|refine tw_mv (.inr rfl) rfl (wdA rfl) ?_|refine tw_pickL rfl rfl rfl (wdA rfl) ?_|refine tw_op1 _ rfl rfl (wdA rfl) (fun ρ W hW h1=>by simp only [execOp,h1];go_simp;first|done|rfl) ?_|refine tw_op2 _ rfl rfl rfl (wdA rfl) (fun ρ W hW h1 h2=>by simp only [execOp,h1,h2];go_simp;first|done|rfl) ?_)
     dsimp only [wpT,List.reverse,List.reverseAux,FinT]
     intro v42 W hW _
     simp only [Act.put,List.setIfInBounds_toArray,List.set_cons_zero,List.set_cons_succ]
     have XW:=Lib.hid ((Below.refl w.heap.size w).drew.trans (Below.mono hW (Nat.le_refl _)))
     clear hW
     go_wp2
     go_ret2
     exact⟨by rw [HN.out,HZ.out];rfl,XW.out⟩
    ·have HN:Box (oneN s=0):=⟨by unfold oneN;rw [ho];rfl⟩
     have HZ:Box (oneZ s=0):=⟨by unfold oneZ;rw [ho];rfl⟩
     have HM:=Lib.hid (fun W=>refmay_any (valU (numsOf s) k) W)
     have HE:Hid (strOfNums ((numsOf s).take (k+1))=s.extract 0 (k+1)):=str_take s (k+1) HMS.out
     cases hm:mayP (valU (numsOf s) k) with
     | false=>
      rw [hm] at HM
      clear h1 ho HR HH HV0 hm HE
      generalize valU (numsOf s) k=n at *
      go_wp2_with fail
      refine wp_region_typed rfl (by kernel_rfl) (by kernel_rfl) ?_
      repeat (first|refine tw_skip (wd_no rfl rfl rfl) ?_|refine tw_mv (.inl rfl) rfl (wdA rfl) ?_|refine tw_mv (.inr rfl) rfl (wdA rfl) ?_|refine tw_pickL rfl rfl rfl (wdA rfl) ?_|refine tw_op1 _ rfl rfl (wdA rfl) (fun ρ W hW h1=>by simp only [execOp,h1];go_simp;first|done|rfl) ?_|refine tw_op2 _ rfl rfl rfl (wdA rfl) (fun ρ W hW h1 h2=>by simp only [execOp,h1,h2];go_simp;first|done|rfl) ?_)
      refine tw_fn0 #[.int .i64 n] (.bool false) rfl (fun W=>by go_simp) rfl (wdA rfl) (fun W _=>HM.out W) ?_
      repeat (first|refine tw_skip (wd_no rfl rfl rfl) ?_|refine tw_mv (.inl rfl) rfl (wdA rfl) ?_|refine tw_mv (.inr rfl) rfl (wdA rfl) ?_|refine tw_pickL rfl rfl rfl (wdA rfl) ?_|refine tw_op1 _ rfl rfl (wdA rfl) (fun ρ W hW h1=>by simp only [execOp,h1];go_simp;first|done|rfl) ?_|refine tw_op2 _ rfl rfl rfl (wdA rfl) (fun ρ W hW h1 h2=>by simp only [execOp,h1,h2];go_simp;first|done|rfl) ?_)
      dsimp only [wpT,List.reverse,List.reverseAux,FinT]
      intro W hW _
      simp only [Act.put,List.setIfInBounds_toArray,List.set_cons_zero,List.set_cons_succ]
      have XW:=Lib.hid ((Below.refl w.heap.size w).drew.trans (Below.mono hW (Nat.le_refl _)))
      clear hW
      go_wp2
      go_ret2
      exact⟨by rw [HN.out,HZ.out];rfl,XW.out⟩
     | true=>
      rw [hm] at HM
      have hb:((strOfNums (bytesU (valU (numsOf s) k))).toList != (s.extract 0 (k+1)).toList)=true:=by
       rw [bne_iff_ne]
       intro e
       rcases h1 with h1|h1
       ·rw [hm] at h1;cases h1
       ·exact h1 (str_inj (bytesU_b8 _ hv0 hv1) (fun x hx=>numsOf_b8 s x (List.mem_of_mem_take hx)) (by rw [HE.out];exact bytes_eq e))
      have HB:=Lib.hid (fun W=>refbytes_any (valU (numsOf s) k) W hv0 hv1)
      clear h1 ho HR HH HV0 hm HE
      generalize bytesU (valU (numsOf s) k)=L at *
      generalize valU (numsOf s) k=n at *
      go_wp2_with fail
      refine wp_region_typed rfl (by kernel_rfl) (by kernel_rfl) ?_
      repeat (first|refine tw_skip (wd_no rfl rfl rfl) ?_|refine tw_mv (.inl rfl) rfl (wdA rfl) ?_|refine tw_mv (.inr rfl) rfl (wdA rfl) ?_|refine tw_pickL rfl rfl rfl (wdA rfl) ?_|refine tw_op1 _ rfl rfl (wdA rfl) (fun ρ W hW h1=>by simp only [execOp,h1];go_simp;first|done|rfl) ?_|refine tw_op2 _ rfl rfl rfl (wdA rfl) (fun ρ W hW h1 h2=>by simp only [execOp,h1,h2];go_simp;first|done|rfl) ?_)
      refine tw_fn0 #[.int .i64 n] (.bool true) rfl (fun W=>by go_simp) rfl (wdA rfl) (fun W _=>HM.out W) ?_
      repeat (first|refine tw_skip (wd_no rfl rfl rfl) ?_|refine tw_mv (.inl rfl) rfl (wdA rfl) ?_|refine tw_mv (.inr rfl) rfl (wdA rfl) ?_|refine tw_pickL rfl rfl rfl (wdA rfl) ?_|refine tw_op1 _ rfl rfl (wdA rfl) (fun ρ W hW h1=>by simp only [execOp,h1];go_simp;first|done|rfl) ?_|refine tw_op2 _ rfl rfl rfl (wdA rfl) (fun ρ W hW h1 h2=>by simp only [execOp,h1,h2];go_simp;first|done|rfl) ?_)
      refine tw_fn #[.int .i64 n] (SlT .u8 L) (stable_sl _ _) rfl (fun W=>by go_simp) rfl (wdA rfl) (fun W _=>(HB.out W).mono fun e w' h=>h.ty) ?_
      refine tw_conv L rfl rfl (wdA rfl) ?_
      repeat (first|refine tw_skip (wd_no rfl rfl rfl) ?_|refine tw_mv (.inl rfl) rfl (wdA rfl) ?_|refine tw_mv (.inr rfl) rfl (wdA rfl) ?_|refine tw_pickL rfl rfl rfl (wdA rfl) ?_|refine tw_op1 _ rfl rfl (wdA rfl) (fun ρ W hW h1=>by simp only [execOp,h1];go_simp;first|done|rfl) ?_|refine tw_op2 _ rfl rfl rfl (wdA rfl) (fun ρ W hW h1 h2=>by simp only [execOp,h1,h2];go_simp;first|done|rfl) ?_)
      refine tw_op2 (x:=.tmp 44) (y:=.tmp 45) (c:=.string s) (e:=.int .i64 ((k:Int)+1)) (.string (s.extract 0 (k+1))) rfl rfl rfl (wdA rfl) (fun ρ W hW h1 h2=>by simp only [execOp,h1,h2,Option.map];go_simp) ?_
      refine tw_op2 (x:=.tmp 43) (y:=.tmp 46) (c:=.string (strOfNums L)) (e:=.string (s.extract 0 (k+1))) (.bool true) rfl rfl rfl (wdA rfl) (fun ρ W hW h1 h2=>by simp only [execOp,h1,h2];go_simp;simpa using hb) ?_
      repeat (first|refine tw_skip (wd_no rfl rfl rfl) ?_|refine tw_mv (.inl rfl) rfl (wdA rfl) ?_|refine tw_mv (.inr rfl) rfl (wdA rfl) ?_|refine tw_pickL rfl rfl rfl (wdA rfl) ?_|refine tw_op1 _ rfl rfl (wdA rfl) (fun ρ W hW h1=>by simp only [execOp,h1];go_simp;first|done|rfl) ?_|refine tw_op2 _ rfl rfl rfl (wdA rfl) (fun ρ W hW h1 h2=>by simp only [execOp,h1,h2];go_simp;first|done|rfl) ?_)
      dsimp only [wpT,List.reverse,List.reverseAux,FinT]
      intro v42 W hW _
      simp only [Act.put,List.setIfInBounds_toArray,List.set_cons_zero,List.set_cons_succ]
      have XW:=Lib.hid ((Below.refl w.heap.size w).drew.trans (Below.mono hW (Nat.le_refl _)))
      clear hW
      go_wp2
      go_ret2
      exact⟨by rw [HN.out,HZ.out];rfl,XW.out⟩
end Go.Proofs.YtnmnpnofdgdigaaGreatDoor
end
section
namespace Go.Proofs.YtnmnpnofdgdigaaGreatDoor
open Go.RowKit
set_option linter.unusedSimpArgs false
set_option linter.unusedVariables false
theorem info_i64:(Tryz.prog.info? 3).map (fun i=>(i.zero,i.size,i.bytes))=some (some (.int .i64 0),1,8):=by kernel_rfl
theorem app_i64s {w:World} {ops:Array Oper} {rest:List Oper} {o:Oper} {a:Act} {Q:Exit→Act→World→Prop} (hgd:o.guard=none) (s x:Operand)
  (ho:o.op=.call { callee:=.builtin .append,args:=#[s,x],argTypes:=#[121,121]})
  (base:Nat) (v:Value) (n:Nat) (xs:List Int) (hs:a.eval s=v) (hown:w.ownsRow base 3 1 v n (ints .i64 xs))
  (B:Nat) (A:Option Addr) (m c:Nat) (news:List Int) (hx:a.eval x=.slice A m c) (hr:Rd w B 1 A m (ints .i64 news)) (hb:n+m≤1000000000000) (hbase:base≤w.heap.size)
  (h:∀v' w',w'.ownsRow base 3 1 v' (n+m) (ints .i64 (xs++news))→w.grownBy w' v.ownBlock→(v'.ownBlock=v.ownBlock∨v'.ownBlock=some w.heap.size)→wpList Tryz.prog ops Q rest (a.put o.dst v') w'):wpList Tryz.prog ops Q (o :: rest) a w:=by
 obtain⟨i0,hi,hz0,hz1,hz2⟩:=info_parts info_i64
 refine app_wpList w hgd s x _ ho base _ i0 (.int .i64 0) 1 8 Tryz.underlying121 hi hz0 hz1 hz2 rfl (by decide) v n _ hs hown B A m c _ hx hr ints_one (by unfold maxLen;omega) (by omega) hbase ?_
 rw [←ints_append];exact h
def lenS (v:Value):Nat:=match v with
 | .string s=>s.size
 | _=>0
theorem ext_size (s:ByteArray) (i:Nat):(s.extract i s.size).size=s.size - i:=by simp
theorem ext_ext (s:ByteArray) (i d:Nat) (h:i+d≤s.size):(s.extract i s.size).extract d (s.extract i s.size).size=s.extract (i+d) s.size:=by
 rw [ByteArray.extract_extract,ext_size]
 congr 1
 omega
theorem okAt_ext (s:ByteArray) (i:Nat):okAt (s.extract i s.size) 0=okAt s i:=by
 unfold okAt
 rw [Lib.tail_decode]
 rfl
theorem dec_ext (s:ByteArray) (i:Nat):Utf8.decode (s.extract i s.size) 0=Utf8.decode s i:=Lib.tail_decode s i 0
theorem dec_le (s:ByteArray) (h:0 < s.size):(Utf8.decode s 0).2≤s.size - 0:=by
 rw [Lib.decode_at s 0]
 have h':1≤s.size - 0:=by omega
 generalize s.size - 0=n at *
 rcases Lib.decodeN_shape n (s.get! 0).toNat (s.get! (0+1)).toNat (s.get! (0+2)).toNat (s.get! (0+3)).toNat with ⟨_,e⟩|⟨_,_,_,_,e⟩|⟨_,_,_,_,_,_,e⟩|⟨_,_,_,_,_,_,_,e⟩|e <;> rw [e] <;> simp only [] <;> omega
theorem dec_in (s:ByteArray) (i:Nat) (h:i < s.size):i+(Utf8.decode s i).2≤s.size:=by
 rw [←dec_ext s i]
 have:=dec_le (s.extract i s.size) (by rw [ext_size];omega)
 rw [ext_size] at this
 omega
def AllPost (s:ByteArray) (w:World) (e:Ending) (w':World):Prop:=∃v,e=.returned (.tuple #[v,.bool (textOK s)])∧Below w.heap.size w w'
set_option maxHeartbeats 1000000 in
set_option maxRecDepth 10000 in
theorem refall_any (s:ByteArray) (w:World) (hs:s.size≤1000000000):Calls Tryz.prog 148 #[.string s] w (AllPost s w):=by
 go_enter Tryz.func148,Tryz.ntmps148
 go_wp2
 go_loopw [0,4] (fun t v wr=>∃(i:Nat) (l:List Int),i≤s.size∧l.length≤i∧t=.string (s.extract i s.size)∧textAt s i=textOK s∧wr.ownsRow w.heap.size 3 1 v l.length (ints .i64 l)∧Below w.heap.size w wr) (fun t _ _=>lenS t)
 case atStart=>exact⟨0,[],Nat.zero_le _,Nat.le_refl _,by simp,rfl,World.ownsRow_nil _ _ _ _,Below.refl _ _⟩
 case round=>
  obtain⟨i,l,hi,hl,rfl,ht,hown,hb⟩:=hrel
  obtain⟨A,c,rfl⟩:=own_form hown
  have HO:=Lib.hid hown
  have HB:=Lib.hid hb
  have hsz:=hb.size
  by_cases hlt:i < s.size
  ·obtain⟨t,htt⟩:∃t,t=s.extract i s.size:=⟨_,rfl⟩
   have htz:t.size=s.size - i:=by rw [htt,ext_size]
   have hne:=str_ne t (by omega)
   have HON:=Lib.hid (fun W=>refone_any t W (by omega) (by omega))
   have HD:Hid (Utf8.decode t 0=Utf8.decode s i):=by rw [htt];exact dec_ext s i
   have hd:=dec_in s i hlt
   have hp:=dec_pos s i
   have hok:okAt t 0=okAt s i:=by rw [htt,okAt_ext]
   rw [←htt]
   cases ho:okAt s i with
   | false=>
    have HT:Box (textOK s=false):=⟨by rw [←ht,textAt_no s i hlt ho]⟩
    have e2:oneZ t=0:=by unfold oneZ;rw [hok,ho];rfl
    rw [e2] at HON
    clear hown hb ht htt hok ho e2 HO
    generalize oneN t=n1 at *
    go_wp2_with fail
    refine(HON.out _).mono ?_
    rintro e w1 ⟨rfl,hb1⟩
    have X1:=Lib.hid (HB.out.trans (hb1.mono hsz))
    clear hb1
    go_wp2
    go_ret2
    exact⟨_,by rw [HT.out];rfl,X1.out⟩
   | true=>
    have HT:Box (textAt s (i+(Utf8.decode s i).2)=textOK s):=⟨by rw [←ht,textAt_yes s i hlt ho]⟩
    have e2:oneZ t=((Utf8.decode s i).2:Int):=by unfold oneZ;rw [hok,ho,HD.out];rfl
    rw [e2] at HON
    have HE:Box (t.extract (Utf8.decode s i).2 t.size=s.extract (i+(Utf8.decode s i).2) s.size):=⟨by rw [htt];exact ext_ext s i _ hd⟩
    clear hown hb ht htt hok ho e2 HD
    generalize oneN t=n1 at *
    generalize (Utf8.decode s i).2=d at *
    go_wp2_with fail
    refine(HON.out _).mono ?_
    rintro e w1 ⟨rfl,hb1⟩
    have X1:=Lib.hid (HB.out.trans (hb1.mono hsz))
    have ho1:=own_keep HO.out hb1
    have hs1:=X1.out.size
    have hd0:((d:Int) == 0)=false:=by rw [beq_eq_false_iff_ne];omega
    have hdt:(d:Int)≤(t.size:Int):=by omega
    have hrn:Rd (w1.alloc (.cells #[.int .i64 n1] 3)) (w1.heap.size+1) 1 (some ⟨w1.heap.size,0,none⟩) 1 (ints .i64 [n1]):=rd_int1 w1 _ _ _
    clear hb1
    go_wp2_with (at_builtin;refine app_i64s rfl _ _ rfl w.heap.size _ l.length _ rfl (ho1.alloc _) _ _ _ _ _ rfl hrn (by omega) (by simp;omega) ?_)
    intro v' w2 hown2 hg _
    have X2:Hid (Below w.heap.size w w2):=(X1.out.alloc hs1 (.cells #[.int .i64 n1] 3)).grown hg (by simp;omega) (fun q hq=>(HO.out.lt q hq).1)
    have HO2:=Lib.hid hown2
    clear hown2 hg ho1 hrn
    go_wp2
    go_roundw
    case rel=>exact⟨i+d,l++[n1],hd,by simp;omega,by rw [←HE.out,htz],HT.out,by simpa using HO2.out,X2.out⟩
    case measure=>simp [lenS];omega
  ·obtain rfl:i=s.size:=by omega
   have hemp:(s.extract s.size s.size).toList.isEmpty=true:=str_em _ (by simp)
   have HT:Box (textOK s=true):=⟨by rw [←ht,textAt_end s s.size (Nat.le_refl _)]⟩
   clear hown hb ht HO
   go_wp2
   go_ret2
   exact⟨_,by rw [HT.out];rfl,HB.out⟩
theorem refis5_any (s:ByteArray) (w:World) (hs:s.size≤1000000000):Calls Tryz.prog 92 #[.string s] w fun e w'=>e=.returned (.bool (textOK s))∧Below w.heap.size w w':=by
 have H:=Lib.hid (refall_any s w hs)
 go_enter Tryz.func92,Tryz.ntmps92
 go_wp2_with fail
 refine H.out.mono ?_
 rintro e w1 ⟨v,rfl,hb1⟩
 go_wp2
 go_ret
 exact⟨rfl,hb1⟩
end Go.Proofs.YtnmnpnofdgdigaaGreatDoor
end
section
namespace Go.Proofs
open Go.Shelf
def Tryz.lays160_ren:Go.Shelf.Ren:=⟨fun|160=>78|232=>132|231=>131|227=>133|234=>135|233=>134|236=>137|235=>136|228=>181|271=>183|151=>160|197=>182|120=>205|152=>195|260=>204|137=>162|119=>199|224=>214|225=>215|217=>196|266=>216|n=>n,fun|9=>9|4=>4|3=>3|5=>5|117=>163|116=>162|0=>0|124=>166|21=>21|105=>209|46=>228|119=>235|139=>238|138=>237|n=>n,fun|3=>0|4=>1|n=>n⟩
theorem Tryz.lays160:Go.Proofs.Lays.n160 Tryz.prog Tryz.lays160_ren:={
 mixed:=by kernel_rfl
 f119:=Tryz.func199.trans (congrArg some (by kernel_rfl))
 f120:=Tryz.func205.trans (congrArg some (by kernel_rfl))
 f137:=Tryz.func162.trans (congrArg some (by kernel_rfl))
 f151:=Tryz.func160.trans (congrArg some (by kernel_rfl))
 f152:=Tryz.func195.trans (congrArg some (by kernel_rfl))
 f160:=Tryz.func78.trans (congrArg some (by kernel_rfl))
 f197:=Tryz.func182.trans (congrArg some (by kernel_rfl))
 f217:=Tryz.func196.trans (congrArg some (by kernel_rfl))
 f224:=Tryz.func214.trans (congrArg some (by kernel_rfl))
 f225:=Tryz.func215.trans (congrArg some (by kernel_rfl))
 f227:=Tryz.func133.trans (congrArg some (by kernel_rfl))
 f228:=Tryz.func181.trans (congrArg some (by kernel_rfl))
 f231:=Tryz.func131.trans (congrArg some (by kernel_rfl))
 f232:=Tryz.func132.trans (congrArg some (by kernel_rfl))
 f233:=Tryz.func134.trans (congrArg some (by kernel_rfl))
 f234:=Tryz.func135.trans (congrArg some (by kernel_rfl))
 f235:=Tryz.func136.trans (congrArg some (by kernel_rfl))
 f236:=Tryz.func137.trans (congrArg some (by kernel_rfl))
 f260:=Tryz.func204.trans (congrArg some (by kernel_rfl))
 f266:=Tryz.func216.trans (congrArg some (by kernel_rfl))
 f271:=Tryz.func183.trans (congrArg some (by kernel_rfl))
 t0:=Tryz.underlying0
 a0:=Tryz.isAgg0
 z0:=Tryz.sizeOf0
 v0:=Tryz.zeroValue0
 t3:=Tryz.underlying3
 a3:=Tryz.isAgg3
 z3:=Tryz.sizeOf3
 v3:=Tryz.zeroValue3
 t4:=Tryz.underlying4
 a4:=Tryz.isAgg4
 z4:=Tryz.sizeOf4
 v4:=Tryz.zeroValue4
 t5:=Tryz.underlying5
 a5:=Tryz.isAgg5
 z5:=Tryz.sizeOf5
 v5:=Tryz.zeroValue5
 t9:=Tryz.underlying9
 a9:=Tryz.isAgg9
 z9:=Tryz.sizeOf9
 v9:=Tryz.zeroValue9
 t21:=Tryz.underlying21
 a21:=Tryz.isAgg21
 z21:=Tryz.sizeOf21
 v21:=Tryz.zeroValue21
 t46:=Tryz.underlying228
 a46:=Tryz.isAgg228
 z46:=Tryz.sizeOf228
 v46:=Tryz.zeroValue228
 t105:=Tryz.underlying209
 a105:=Tryz.isAgg209
 z105:=Tryz.sizeOf209
 v105:=Tryz.zeroValue209
 t116:=Tryz.underlying162
 a116:=Tryz.isAgg162
 z116:=Tryz.sizeOf162
 t117:=Tryz.underlying163
 a117:=Tryz.isAgg163
 z117:=Tryz.sizeOf163
 v117:=Tryz.zeroValue163
 t119:=Tryz.underlying235
 a119:=Tryz.isAgg235
 z119:=Tryz.sizeOf235
 t124:=Tryz.underlying166
 a124:=Tryz.isAgg166
 z124:=Tryz.sizeOf166
 v124:=Tryz.zeroValue166
 t138:=Tryz.underlying237
 a138:=Tryz.isAgg237
 z138:=Tryz.sizeOf237
 v138:=Tryz.zeroValue237
 t139:=Tryz.underlying238
 a139:=Tryz.isAgg238
 z139:=Tryz.sizeOf238
 v139:=Tryz.zeroValue238
 g3:=by kernel_rfl
 g4:=by kernel_rfl}
def Tryz.lays119_ren:Go.Shelf.Ren:=⟨fun|119=>199|n=>n,fun|21=>21|4=>4|n=>n,fun|n=>n⟩
theorem Tryz.lays119:Go.Proofs.Lays.n119 Tryz.prog Tryz.lays119_ren:={
 mixed:=by kernel_rfl
 f119:=Tryz.func199.trans (congrArg some (by kernel_rfl))
 t4:=Tryz.underlying4
 a4:=Tryz.isAgg4
 z4:=Tryz.sizeOf4
 v4:=Tryz.zeroValue4
 t21:=Tryz.underlying21
 a21:=Tryz.isAgg21
 z21:=Tryz.sizeOf21
 v21:=Tryz.zeroValue21}
theorem Tryz.utf8_ValidRune (r:Int) (w:World) :
  Calls Tryz.prog 199 #[.int .i32 r] w fun e w'=>e=.returned (.bool (Lib.validRune r))∧w'=w:=Any.utf8_ValidRune Tryz.lays119 r w
def Tryz.lays137_ren:Go.Shelf.Ren:=⟨fun|137=>162|217=>196|266=>216|n=>n,fun|9=>9|5=>5|3=>3|n=>n,fun|n=>n⟩
theorem Tryz.lays137:Go.Proofs.Lays.n137 Tryz.prog Tryz.lays137_ren:={
 mixed:=by kernel_rfl
 f137:=Tryz.func162.trans (congrArg some (by kernel_rfl))
 f217:=Tryz.func196.trans (congrArg some (by kernel_rfl))
 f266:=Tryz.func216.trans (congrArg some (by kernel_rfl))
 t3:=Tryz.underlying3
 a3:=Tryz.isAgg3
 z3:=Tryz.sizeOf3
 v3:=Tryz.zeroValue3
 t5:=Tryz.underlying5
 a5:=Tryz.isAgg5
 z5:=Tryz.sizeOf5
 v5:=Tryz.zeroValue5
 t9:=Tryz.underlying9
 a9:=Tryz.isAgg9
 z9:=Tryz.sizeOf9
 v9:=Tryz.zeroValue9}
open Go.RowKit in
theorem Tryz.strings_IndexByte (s:ByteArray) (c:Int) (w:World) :
  Calls Tryz.prog 162 #[.string s,.int .u8 c] w fun e w'=>e=.returned (.int .i64 (Lib.indexByte s.data.toList c.toNat.toUInt8))∧w'=w:=Any.strings_IndexByte Tryz.lays137 s c w
def Tryz.laysM171_ren:Go.Shelf.Ren:=⟨fun|171=>121|243=>170|246=>201|283=>218|284=>219|285=>220|286=>221|129=>227|317=>226|318=>228|319=>229|320=>230|337=>233|338=>234|n=>n,fun|3=>3|9=>9|2=>2|4=>4|171=>229|0=>0|53=>230|37=>179|5=>5|173=>233|212=>241|51=>242|20=>20|213=>243|46=>228|232=>248|233=>249|n=>n,fun|17=>3|18=>4|19=>5|n=>n⟩
theorem Tryz.laysM171:Go.Proofs.LaysM.n171 Tryz.prog Tryz.laysM171_ren:={
 mixed:=by kernel_rfl
 f129:=Tryz.func227.trans (congrArg some (by kernel_rfl))
 f171:=Tryz.func121.trans (congrArg some (by kernel_rfl))
 f243:=Tryz.func170.trans (congrArg some (by kernel_rfl))
 f246:=Tryz.func201.trans (congrArg some (by kernel_rfl))
 f283:=Tryz.func218.trans (congrArg some (by kernel_rfl))
 f284:=Tryz.func219.trans (congrArg some (by kernel_rfl))
 f285:=Tryz.func220.trans (congrArg some (by kernel_rfl))
 f286:=Tryz.func221.trans (congrArg some (by kernel_rfl))
 f317:=Tryz.func226.trans (congrArg some (by kernel_rfl))
 f318:=Tryz.func228.trans (congrArg some (by kernel_rfl))
 f319:=Tryz.func229.trans (congrArg some (by kernel_rfl))
 f320:=Tryz.func230.trans (congrArg some (by kernel_rfl))
 f337:=Tryz.func233.trans (congrArg some (by kernel_rfl))
 f338:=Tryz.func234.trans (congrArg some (by kernel_rfl))
 t0:=Tryz.underlying0
 a0:=Tryz.isAgg0
 z0:=Tryz.sizeOf0
 v0:=Tryz.zeroValue0
 t2:=Tryz.underlying2
 a2:=Tryz.isAgg2
 z2:=Tryz.sizeOf2
 v2:=Tryz.zeroValue2
 t3:=Tryz.underlying3
 a3:=Tryz.isAgg3
 z3:=Tryz.sizeOf3
 v3:=Tryz.zeroValue3
 t4:=Tryz.underlying4
 a4:=Tryz.isAgg4
 z4:=Tryz.sizeOf4
 v4:=Tryz.zeroValue4
 t5:=Tryz.underlying5
 a5:=Tryz.isAgg5
 z5:=Tryz.sizeOf5
 v5:=Tryz.zeroValue5
 t9:=Tryz.underlying9
 a9:=Tryz.isAgg9
 z9:=Tryz.sizeOf9
 v9:=Tryz.zeroValue9
 t20:=Tryz.underlying20
 a20:=Tryz.isAgg20
 z20:=Tryz.sizeOf20
 v20:=Tryz.zeroValue20
 t37:=Tryz.underlying179
 a37:=Tryz.isAgg179
 z37:=Tryz.sizeOf179
 v37:=Tryz.zeroValue179
 t46:=Tryz.underlying228
 a46:=Tryz.isAgg228
 z46:=Tryz.sizeOf228
 v46:=Tryz.zeroValue228
 t51:=Tryz.underlying242
 a51:=Tryz.isAgg242
 z51:=Tryz.sizeOf242
 v51:=Tryz.zeroValue242
 t53:=Tryz.underlying230
 a53:=Tryz.isAgg230
 z53:=Tryz.sizeOf230
 v53:=Tryz.zeroValue230
 t171:=Tryz.underlying229
 a171:=Tryz.isAgg229
 z171:=Tryz.sizeOf229
 v171:=Tryz.zeroValue229
 t173:=Tryz.underlying233
 a173:=Tryz.isAgg233
 z173:=Tryz.sizeOf233
 v173:=Tryz.zeroValue233
 t212:=Tryz.underlying241
 a212:=Tryz.isAgg241
 z212:=Tryz.sizeOf241
 v212:=Tryz.zeroValue241
 t213:=Tryz.underlying243
 a213:=Tryz.isAgg243
 z213:=Tryz.sizeOf243
 t232:=Tryz.underlying248
 a232:=Tryz.isAgg248
 z232:=Tryz.sizeOf248
 v232:=Tryz.zeroValue248
 t233:=Tryz.underlying249
 a233:=Tryz.isAgg249
 z233:=Tryz.sizeOf249
 v233:=Tryz.zeroValue249
 g17:=by kernel_rfl
 g18:=by kernel_rfl
 g19:=by kernel_rfl
 i0:=by kernel_rfl
 i2:=by kernel_rfl
 i3:=by kernel_rfl
 i4:=by kernel_rfl
 i5:=by kernel_rfl
 i9:=by kernel_rfl
 i20:=by kernel_rfl
 i37:=by kernel_rfl
 i46:=by kernel_rfl
 i51:=by kernel_rfl
 i53:=by kernel_rfl
 i171:=by kernel_rfl
 i173:=by kernel_rfl
 i212:=by kernel_rfl
 i232:=by kernel_rfl
 i233:=by kernel_rfl
 m17:=by kernel_rfl
 m18:=by kernel_rfl
 m19:=by kernel_rfl}
open Go.RowKit Go.Sort Go.Lib in
theorem Tryz.strconv_Itoa (n:Int) (h0:-9223372036854775808≤n) (h1:n≤9223372036854775807) (w:World) (htab:Lib.TabIs Tryz.prog w "internal/strconv.uint64pow10" .u64 Lib.pow10Tab) :
  Calls Tryz.prog 121 #[.int .i64 n] w fun e w'=>e=.returned (.string ⟨(Lib.itoa n).toArray⟩)∧∃k os,w'=grow (w.drewN k) os:=Any.strconv_Itoa Tryz.laysM171 n h0 h1 w htab
def Tryz.lays219_ren:Go.Shelf.Ren:=⟨fun|219=>217|217=>196|225=>215|224=>214|267=>225|266=>216|314=>232|n=>n,fun|9=>9|3=>3|4=>4|5=>5|46=>228|146=>245|51=>242|n=>n,fun|1=>2|n=>n⟩
theorem Tryz.lays219:Go.Proofs.Lays.n219 Tryz.prog Tryz.lays219_ren:={
 mixed:=by kernel_rfl
 f217:=Tryz.func196.trans (congrArg some (by kernel_rfl))
 f219:=Tryz.func217.trans (congrArg some (by kernel_rfl))
 f224:=Tryz.func214.trans (congrArg some (by kernel_rfl))
 f225:=Tryz.func215.trans (congrArg some (by kernel_rfl))
 f266:=Tryz.func216.trans (congrArg some (by kernel_rfl))
 f267:=Tryz.func225.trans (congrArg some (by kernel_rfl))
 f314:=Tryz.func232.trans (congrArg some (by kernel_rfl))
 t3:=Tryz.underlying3
 a3:=Tryz.isAgg3
 z3:=Tryz.sizeOf3
 v3:=Tryz.zeroValue3
 t4:=Tryz.underlying4
 a4:=Tryz.isAgg4
 z4:=Tryz.sizeOf4
 v4:=Tryz.zeroValue4
 t5:=Tryz.underlying5
 a5:=Tryz.isAgg5
 z5:=Tryz.sizeOf5
 v5:=Tryz.zeroValue5
 t9:=Tryz.underlying9
 a9:=Tryz.isAgg9
 z9:=Tryz.sizeOf9
 v9:=Tryz.zeroValue9
 t46:=Tryz.underlying228
 a46:=Tryz.isAgg228
 z46:=Tryz.sizeOf228
 v46:=Tryz.zeroValue228
 t51:=Tryz.underlying242
 a51:=Tryz.isAgg242
 z51:=Tryz.sizeOf242
 v51:=Tryz.zeroValue242
 t146:=Tryz.underlying245
 a146:=Tryz.isAgg245
 z146:=Tryz.sizeOf245
 v146:=Tryz.zeroValue245
 g1:=by kernel_rfl}
open Go.RowKit Go.Lib in
theorem Tryz.stringslite_Index_one (s:ByteArray) (c:UInt8) (w:World) :
  Calls Tryz.prog 217 #[.string s,.string ⟨#[c]⟩] w fun e w'=>e=.returned (.int .i64 (Lib.indexByte s.data.toList c))∧w'=w:=Any.stringslite_Index_one Tryz.lays219 s c w
def Tryz.lays144_ren:Go.Shelf.Ren:=⟨fun|144=>163|143=>197|219=>217|217=>196|225=>215|224=>214|267=>225|266=>216|314=>232|n=>n,fun|9=>9|4=>4|3=>3|5=>5|46=>228|146=>245|51=>242|n=>n,fun|1=>2|n=>n⟩
theorem Tryz.lays144:Go.Proofs.Lays.n144 Tryz.prog Tryz.lays144_ren:={
 mixed:=by kernel_rfl
 f143:=Tryz.func197.trans (congrArg some (by kernel_rfl))
 f144:=Tryz.func163.trans (congrArg some (by kernel_rfl))
 f217:=Tryz.func196.trans (congrArg some (by kernel_rfl))
 f219:=Tryz.func217.trans (congrArg some (by kernel_rfl))
 f224:=Tryz.func214.trans (congrArg some (by kernel_rfl))
 f225:=Tryz.func215.trans (congrArg some (by kernel_rfl))
 f266:=Tryz.func216.trans (congrArg some (by kernel_rfl))
 f267:=Tryz.func225.trans (congrArg some (by kernel_rfl))
 f314:=Tryz.func232.trans (congrArg some (by kernel_rfl))
 t3:=Tryz.underlying3
 a3:=Tryz.isAgg3
 z3:=Tryz.sizeOf3
 v3:=Tryz.zeroValue3
 t4:=Tryz.underlying4
 a4:=Tryz.isAgg4
 z4:=Tryz.sizeOf4
 v4:=Tryz.zeroValue4
 t5:=Tryz.underlying5
 a5:=Tryz.isAgg5
 z5:=Tryz.sizeOf5
 v5:=Tryz.zeroValue5
 t9:=Tryz.underlying9
 a9:=Tryz.isAgg9
 z9:=Tryz.sizeOf9
 v9:=Tryz.zeroValue9
 t46:=Tryz.underlying228
 a46:=Tryz.isAgg228
 z46:=Tryz.sizeOf228
 v46:=Tryz.zeroValue228
 t51:=Tryz.underlying242
 a51:=Tryz.isAgg242
 z51:=Tryz.sizeOf242
 v51:=Tryz.zeroValue242
 t146:=Tryz.underlying245
 a146:=Tryz.isAgg245
 z146:=Tryz.sizeOf245
 v146:=Tryz.zeroValue245
 g1:=by kernel_rfl}
open Go.RowKit Go.Lib in
theorem Tryz.strings_Contains (s sub:ByteArray) (m:Int) (w:World) (hs:s.size < 4294967281) (hm:w.cell? ⟨2,0,none⟩=some (.int .i64 m)) :
  Calls Tryz.prog 163 #[.string s,.string sub] w fun e w'=>e=.returned (.bool (Lib.contains s.data.toList sub.data.toList))∧w'=w:=Any.strings_Contains Tryz.lays144 s sub m w hs hm
def Tryz.laysGw17_ren:Go.Shelf.Ren:=⟨fun|17=>158|15=>194|20=>213|n=>n,fun|9=>9|23=>193|4=>4|3=>3|0=>0|21=>21|n=>n,fun|n=>n⟩
theorem Tryz.laysGw17:Go.Proofs.LaysGw.n17 Tryz.prog Tryz.laysGw17_ren:={
 mixed:=by kernel_rfl
 f15:=Tryz.func194.trans (congrArg some (by kernel_rfl))
 f17:=Tryz.func158.trans (congrArg some (by kernel_rfl))
 f20:=Tryz.func213.trans (congrArg some (by kernel_rfl))
 t0:=Tryz.underlying0
 a0:=Tryz.isAgg0
 z0:=Tryz.sizeOf0
 v0:=Tryz.zeroValue0
 i0:=by kernel_rfl
 t3:=Tryz.underlying3
 a3:=Tryz.isAgg3
 z3:=Tryz.sizeOf3
 v3:=Tryz.zeroValue3
 i3:=by kernel_rfl
 t4:=Tryz.underlying4
 a4:=Tryz.isAgg4
 z4:=Tryz.sizeOf4
 v4:=Tryz.zeroValue4
 i4:=by kernel_rfl
 t9:=Tryz.underlying9
 a9:=Tryz.isAgg9
 z9:=Tryz.sizeOf9
 v9:=Tryz.zeroValue9
 i9:=by kernel_rfl
 t21:=Tryz.underlying21
 a21:=Tryz.isAgg21
 z21:=Tryz.sizeOf21
 v21:=Tryz.zeroValue21
 i21:=by kernel_rfl
 t23:=Tryz.underlying193
 a23:=Tryz.isAgg193
 z23:=Tryz.sizeOf193
 v23:=Tryz.zeroValue193
 i23:=by kernel_rfl}
open Go.RowKit Go.Lib in
theorem Tryz.strings_ContainsFunc_runes (g:Nat) (lb:Array Value) (eg:∀args w,(callFunc g args).run Tryz.prog w=.ok (.enter g args) w) (p:Nat→Bool) (s:ByteArray) (w:World) (hp:PredAtRunes Tryz.prog g lb p w) :
  Calls Tryz.prog 158 #[.string s,.func (.func g) #[] lb] w fun e w'=>e=.returned (.bool (decide (0≤Lib.idxFunc p true s)))∧Below w.heap.size w w':=Any.strings_ContainsFunc_runes Tryz.laysGw17 g lb eg p s w hp
def Tryz.lays99_ren:Go.Shelf.Ren:=⟨fun|99=>164|206=>198|n=>n,fun|9=>9|4=>4|3=>3|n=>n,fun|n=>n⟩
theorem Tryz.lays99:Go.Proofs.Lays.n99 Tryz.prog Tryz.lays99_ren:={
 mixed:=by kernel_rfl
 f99:=Tryz.func164.trans (congrArg some (by kernel_rfl))
 f206:=Tryz.func198.trans (congrArg some (by kernel_rfl))
 t3:=Tryz.underlying3
 a3:=Tryz.isAgg3
 z3:=Tryz.sizeOf3
 v3:=Tryz.zeroValue3
 t4:=Tryz.underlying4
 a4:=Tryz.isAgg4
 z4:=Tryz.sizeOf4
 v4:=Tryz.zeroValue4
 t9:=Tryz.underlying9
 a9:=Tryz.isAgg9
 z9:=Tryz.sizeOf9
 v9:=Tryz.zeroValue9}
open Go.RowKit Go.Lib in
theorem Tryz.strings_HasPrefix (s p:ByteArray) (w:World) :
  Calls Tryz.prog 164 #[.string s,.string p] w fun e w'=>e=.returned (.bool (Lib.hasPrefix s.data.toList p.data.toList))∧w'=w:=Any.strings_HasPrefix Tryz.lays99 s p w
def Tryz.lays151_ren:Go.Shelf.Ren:=⟨fun|151=>160|152=>195|137=>162|119=>199|224=>214|225=>215|217=>196|266=>216|n=>n,fun|9=>9|21=>21|4=>4|3=>3|5=>5|0=>0|46=>228|n=>n,fun|n=>n⟩
theorem Tryz.lays151:Go.Proofs.Lays.n151 Tryz.prog Tryz.lays151_ren:={
 mixed:=by kernel_rfl
 f119:=Tryz.func199.trans (congrArg some (by kernel_rfl))
 f137:=Tryz.func162.trans (congrArg some (by kernel_rfl))
 f151:=Tryz.func160.trans (congrArg some (by kernel_rfl))
 f152:=Tryz.func195.trans (congrArg some (by kernel_rfl))
 f217:=Tryz.func196.trans (congrArg some (by kernel_rfl))
 f224:=Tryz.func214.trans (congrArg some (by kernel_rfl))
 f225:=Tryz.func215.trans (congrArg some (by kernel_rfl))
 f266:=Tryz.func216.trans (congrArg some (by kernel_rfl))
 t0:=Tryz.underlying0
 a0:=Tryz.isAgg0
 z0:=Tryz.sizeOf0
 v0:=Tryz.zeroValue0
 t3:=Tryz.underlying3
 a3:=Tryz.isAgg3
 z3:=Tryz.sizeOf3
 v3:=Tryz.zeroValue3
 t4:=Tryz.underlying4
 a4:=Tryz.isAgg4
 z4:=Tryz.sizeOf4
 v4:=Tryz.zeroValue4
 t5:=Tryz.underlying5
 a5:=Tryz.isAgg5
 z5:=Tryz.sizeOf5
 v5:=Tryz.zeroValue5
 t9:=Tryz.underlying9
 a9:=Tryz.isAgg9
 z9:=Tryz.sizeOf9
 v9:=Tryz.zeroValue9
 t21:=Tryz.underlying21
 a21:=Tryz.isAgg21
 z21:=Tryz.sizeOf21
 v21:=Tryz.zeroValue21
 t46:=Tryz.underlying228
 a46:=Tryz.isAgg228
 z46:=Tryz.sizeOf228
 v46:=Tryz.zeroValue228}
open Go.RowKit Go.Lib in
theorem Tryz.strings_ContainsRune_ascii (s:ByteArray) (r:Int) (w:World) (h0:0≤r) (h1:r < 128) :
  Calls Tryz.prog 160 #[.string s,.int .i32 r] w fun e w'=>e=.returned (.bool (decide (0≤Lib.indexByte s.data.toList r.toNat.toUInt8)))∧w'=w:=Any.strings_ContainsRune_ascii Tryz.lays151 s r w h0 h1
end Go.Proofs
end
