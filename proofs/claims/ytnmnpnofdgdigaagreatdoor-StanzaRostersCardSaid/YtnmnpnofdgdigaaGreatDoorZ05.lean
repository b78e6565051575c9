/- Part 5 of a proof laid in parts, one behind the other; no condition of its own. -/
import Derived.Test.YtnmnpnofdgdigaaGreatDoorZ04
import Derived.Lib.OthersKept
import Derived.Test.YtnmnpnofdgdigaaGreatDoorZ02
import Derived.Test.YtnmnpnofdgdigaaGreatDoorZ03
import Derived.Laws.IdiomStrings
import Derived.Lib.IndexLaws
set_option linter.all false
section
namespace Go.Proofs.YtnmnpnofdgdigaaGreatDoor
open Go.RowKit
set_option linter.unusedSimpArgs false
set_option linter.unusedVariables false
theorem valid_may (n:Int) (h0:0≤n):Lib.validRune n=decide (n < 55296∨(57343 < n∧n≤1114111)):=by
 unfold Lib.validRune
 first|rfl|decide|(rw [Bool.eq_iff_iff];simp only [Bool.and_eq_true,Bool.or_eq_true,Bool.not_eq_true',Bool.not_eq_true,decide_eq_true_eq,decide_eq_false_iff_not,beq_iff_eq,bne_iff_ne,beq_eq_false_iff_ne,bne_eq_false_iff_eq,Bool.false_eq_true,ne_eq,true_and,and_true,false_or,or_false,reduceCtorEq,false_iff,true_iff,iff_false,iff_true];omega)|(simp;done)|(simp;omega)
theorem may_any (n:Int) (w:World) (h0:0≤n) (h1:n≤2147483647):Calls Tryz.prog 165 #[.int .i64 n] w fun e w'=>e=.returned (.bool (mayP n))∧w=w':=by
 have HV:=Lib.hid (fun W=>Tryz.utf8_ValidRune n W)
 rw [valid_may n h0] at HV
 have hc:∃r,mayP n=r∧(((n=9∨n=10∨n=13)∧r=true)∨((¬n=9∧¬n=10∧¬n=13)∧(n < 32∨n=65534∨n=65535∨1114111 < n)∧r=false)∨((32≤n∧¬n=65534∧¬n=65535∧n≤1114111)∧r=decide (n < 55296∨(57343 < n∧n≤1114111)))):=by
  refine⟨_,rfl,?_⟩
  unfold mayP
  by_cases h:n < 32
  ·rw [if_pos h]
   by_cases h2:n=9∨n=10∨n=13
   ·exact .inl ⟨h2,by simpa using h2⟩
   ·exact .inr (.inl ⟨by omega,.inl h,by simpa using h2⟩)
  ·rw [if_neg h]
   by_cases h2:n=65534∨n=65535∨1114111 < n
   ·exact .inr (.inl ⟨by omega,.inr h2,by rw [decide_eq_false_iff_not];omega⟩)
   ·refine .inr (.inr ⟨by omega,?_⟩)
    first|rfl|decide|(rw [Bool.eq_iff_iff];simp only [Bool.and_eq_true,Bool.or_eq_true,Bool.not_eq_true',Bool.not_eq_true,decide_eq_true_eq,decide_eq_false_iff_not,beq_iff_eq,bne_iff_ne,beq_eq_false_iff_ne,bne_eq_false_iff_eq,Bool.false_eq_true,ne_eq,true_and,and_true,false_or,or_false,reduceCtorEq,false_iff,true_iff,iff_false,iff_true];omega)|(simp;done)|(simp;omega)
 obtain⟨r,hr,hc⟩:=hc
 rw [hr]
 clear hr
 rcases hc with ⟨h,rfl⟩|⟨⟨k1,k2,k3⟩,h,rfl⟩|⟨⟨k1,k2,k3,k4⟩,rfl⟩
 ·rcases h with rfl|rfl|rfl
  all_goals
   go_enter Tryz.func165,Tryz.ntmps165
   go_wp2
   go_ret
   exact⟨rfl,rfl⟩
 ·have q1:(n == 9)=false:=by simpa using k1
  have q2:(n == 10)=false:=by simpa using k2
  have q3:(n == 13)=false:=by simpa using k3
  rcases h with h|rfl|rfl|h
  all_goals
   go_enter Tryz.func165,Tryz.ntmps165
   go_wp2
   all_goals first
    | (go_ret;exact⟨rfl,rfl⟩)
    | (exfalso;omega)
 ·have q1:(n == 9)=false:=by rw [beq_eq_false_iff_ne];omega
  have q2:(n == 10)=false:=by rw [beq_eq_false_iff_ne];omega
  have q3:(n == 13)=false:=by rw [beq_eq_false_iff_ne];omega
  have q4:(n == 65534)=false:=by simpa using k2
  have q5:(n == 65535)=false:=by simpa using k3
  go_enter Tryz.func165,Tryz.ntmps165
  go_wp2_with fail
  refine(HV.out _).mono ?_
  rintro e w1 ⟨rfl,rfl⟩
  go_wp2
  go_ret
  exact⟨ret_bool (by first|rfl|decide|(rw [Bool.eq_iff_iff];simp only [Bool.and_eq_true,Bool.or_eq_true,Bool.not_eq_true',Bool.not_eq_true,decide_eq_true_eq,decide_eq_false_iff_not,beq_iff_eq,bne_iff_ne,beq_eq_false_iff_ne,bne_eq_false_iff_eq,Bool.false_eq_true,ne_eq,true_and,and_true,false_or,or_false,reduceCtorEq,false_iff,true_iff,iff_false,iff_true];omega)|(simp;done)|(simp;omega)),rfl⟩
theorem fffd_list (l:List UInt8) (h:0 < l.length) (hr:(Lib.decodeN l.length (l.getD 0 0).toNat (l.getD 1 0).toNat (l.getD 2 0).toNat (l.getD 3 0).toNat).1=65533) :
  [239,191,189].isPrefixOf l=decide ((Lib.decodeN l.length (l.getD 0 0).toNat (l.getD 1 0).toNat (l.getD 2 0).toNat (l.getD 3 0).toNat).2≠1):=by
 match l,h with
 | [a],_=>
  have hs:=Lib.decodeN_shape 1 a.toNat 0 0 0
  have ha:=a.toNat_lt
  simp only [List.length_cons,List.length_nil,List.getD_cons_zero,List.getD_cons_succ,List.getD_nil,Nat.zero_add] at hr ⊢
  have e:([239,191,189]:List UInt8).isPrefixOf [a]=false:=by simp [List.isPrefixOf]
  rw [e]
  symm
  rw [decide_eq_false_iff_not]
  rcases hs with ⟨h1,e⟩|⟨_,h1,_⟩|⟨_,h1,_⟩|⟨_,h1,_⟩|e
  ·have e':Lib.decodeN 1 a.toNat (UInt8.toNat 0) (UInt8.toNat 0) (UInt8.toNat 0)=(a.toNat,1):=e
   rw [e'];simp
  ·omega
  ·omega
  ·omega
  ·have e':Lib.decodeN 1 a.toNat (UInt8.toNat 0) (UInt8.toNat 0) (UInt8.toNat 0)=(65533,1):=e
   rw [e'];simp
 | [a,b],_=>
  have hs:=Lib.decodeN_shape 2 a.toNat b.toNat 0 0
  have ha:=a.toNat_lt
  simp only [List.length_cons,List.length_nil,List.getD_cons_zero,List.getD_cons_succ,List.getD_nil,Nat.zero_add,Nat.reduceAdd] at hr ⊢
  have e:([239,191,189]:List UInt8).isPrefixOf [a,b]=false:=by simp [List.isPrefixOf]
  rw [e]
  symm
  rw [decide_eq_false_iff_not]
  have hz:UInt8.toNat 0=0:=rfl
  rw [hz] at hr ⊢
  rcases hs with ⟨h1,e⟩|⟨k0,h1,k1,k2,e⟩|⟨_,h1,_⟩|⟨_,h1,_⟩|e
  ·rw [e];simp
  ·rw [e] at hr;simp only [] at hr;omega
  ·omega
  ·omega
  ·rw [e];simp
 | a :: b :: c :: t,_=>
  have hs:=Lib.decodeN_shape (t.length+1+1+1) a.toNat b.toNat c.toNat (t.getD 0 0).toNat
  have ha:=a.toNat_lt
  have hb:=b.toNat_lt
  have hc:=c.toNat_lt
  simp only [List.length_cons,List.getD_cons_zero,List.getD_cons_succ] at hr ⊢
  have e:([239,191,189]:List UInt8).isPrefixOf (a :: b :: c :: t)=decide (a.toNat=239∧b.toNat=191∧c.toNat=189):=by
   simp only [List.isPrefixOf,Bool.and_true]
   rw [Bool.eq_iff_iff]
   simp only [Bool.and_eq_true,beq_iff_eq,decide_eq_true_eq,←UInt8.toNat_inj]
   simp
   omega
  rw [e]
  have hgood:a.toNat=239∧b.toNat=191∧c.toNat=189→Lib.decodeN (t.length+1+1+1) a.toNat b.toNat c.toNat (t.getD 0 0).toNat=(65533,3):=by
   rintro ⟨e1,e2,e3⟩
   rw [e1,e2,e3]
   unfold Lib.decodeN
   rw [if_neg (by omega),if_neg (by omega),if_pos (by omega),if_pos (by omega)]
  generalize Lib.decodeN (t.length+1+1+1) a.toNat b.toNat c.toNat (t.getD 0 0).toNat=D at *
  rcases hs with ⟨h1,rfl⟩|⟨k0,h1,k1,k2,rfl⟩|⟨k0,h1,k1,k2,k3,k4,rfl⟩|⟨k0,h1,k1,k2,k3,k4,k5,rfl⟩|rfl
  all_goals
   simp only [] at hr ⊢
   rw [decide_eq_decide]
   first
    | omega
    | (refine⟨fun h=>?_,fun h=>?_⟩ <;> first|(have:=hgood h;simp at this;done)|(exact absurd rfl h)|omega)
theorem fffd (s:ByteArray) (i:Nat) (h:i < s.size) (hr:(Utf8.decode s i).1=65533):Lib.hasPrefix (s.extract i s.size).data.toList [239,191,189]=decide ((Utf8.decode s i).2≠1):=by
 have hl:0 < (s.extract i s.size).data.toList.length:=by
  have:(s.extract i s.size).data.toList.length=(s.extract i s.size).size:=rfl
  rw [this,ext_size];omega
 have hd:Utf8.decode s i=Lib.decodeN (s.extract i s.size).data.toList.length ((s.extract i s.size).data.toList.getD 0 0).toNat ((s.extract i s.size).data.toList.getD 1 0).toNat ((s.extract i s.size).data.toList.getD 2 0).toNat ((s.extract i s.size).data.toList.getD 3 0).toNat:=by
  rw [←dec_ext s i,Lib.decode_N]
  rfl
 rw [hd] at hr ⊢
 exact fffd_list _ hl hr
theorem own_iter {w:World} {base k:Nat} {e:TypeId} {z:Nat} {v:Value} {n:Nat} {xs:List Value} (h:w.ownsRow base e z v n xs) (hk:k < base) (s:ByteArray) (p:Nat):(w.iterAt k s p).ownsRow base e z v n xs:=
 h.kept (row:=some k) ⟨rfl,rfl,rfl,by rw [Lib.iterAt_size];exact Nat.le_refl _,fun j _ hj=>Lib.iterAt_other w k j s p (fun e=>hj (by rw [e]))⟩ (by cases h':v.ownBlock with
  | none=>exact .inl rfl
  | some g=>
   refine .inr fun e=>?_
   have:=(h.lt g h').1
   injection e with e
   omega)
theorem heap_alloc_old (w:World) (o:Obj) (k:Nat) (h:k < w.heap.size):(w.alloc o).heap[k]? = w.heap[k]?:=by
 show(w.heap.push o)[k]? = _
 rw [Array.getElem?_push_lt h,Array.getElem?_eq_getElem h]
theorem hasPrefix_any (s p:ByteArray) (w:World):Calls Tryz.prog 164 #[.string s,.string p] w fun e w'=>e=.returned (.bool (Lib.hasPrefix s.data.toList p.data.toList))∧w=w':=
 (Tryz.strings_HasPrefix s p w).mono fun _ _ h=>⟨h.1,h.2.symm⟩
theorem iter_pos {w:World} {k:Nat} {s:ByteArray} {p:Nat} (h:w.heap[k]? = some (.stringIter s p)):w.iterPos k=p:=by unfold World.iterPos;rw [h]
def PtsPost (s:ByteArray) (w:World) (e:Ending) (w':World):Prop:=∃v,e=.returned (.tuple #[v,.int .i64 (textErr s)])∧Below w.heap.size w w'
set_option maxHeartbeats 1000000 in
set_option maxRecDepth 10000 in
theorem points_any (s:ByteArray) (w:World) (hs:s.size≤1000000000):Calls Tryz.prog 114 #[.string s] w (PtsPost s w):=by
 by_cases h:16384 < s.size
 ·have h':(16384:Int) < (s.size:Int):=by omega
  have HX:Box (textErr s=4):=⟨by unfold textErr;rw [if_pos h]⟩
  go_enter Tryz.func114,Tryz.ntmps114
  go_wp2
  go_ret2
  exact⟨_,by rw [HX.out];rfl,Below.refl _ _⟩
 ·have h':¬(16384:Int) < (s.size:Int):=by omega
  have HX:Box (textErr s=if textOK s then 0 else 50):=⟨by unfold textErr;rw [if_neg h]⟩
  go_enter Tryz.func114,Tryz.ntmps114
  go_wp2
  go_loopw [2] (fun v wr=>∃(i:Nat) (l:List Int),i≤s.size∧l.length≤i∧textAt s i=textOK s∧wr.ownsRow (w.heap.size+1) 3 1 v l.length (ints .i64 l)∧wr.heap[w.heap.size]? = some (.stringIter s i)∧Below w.heap.size w wr) (fun _ wr=>s.size - wr.iterPos w.heap.size)
  case atStart=>exact⟨0,[],Nat.zero_le _,Nat.le_refl _,rfl,World.ownsRow_nil _ _ _ _,World.iter_heap w s 0,(Below.refl _ w).alloc (Nat.le_refl _) _⟩
  case round=>
   obtain⟨i,l,hi,hl,ht,hown,hit,hb⟩:=hrel
   obtain⟨A,c,rfl⟩:=own_form hown
   by_cases hp:i < s.size
   ·obtain⟨W1,hW1⟩:∃W1,W1=wr.iterAt w.heap.size s (i+(Utf8.decode s i).2):=⟨_,rfl⟩
    have hnx:=fun ty=>Lib.run_next_any_at (P:=Tryz.prog) wr w.heap.size s i ty hit hp
    rw [←hW1] at hnx
    have ho1:W1.ownsRow (w.heap.size+1) 3 1 (.slice A l.length c) l.length (ints .i64 l):=by rw [hW1];exact own_iter hown (by omega) _ _
    have hb1:Below w.heap.size w W1:=by rw [hW1];exact Lib.below_iterAt hb (Nat.le_refl _) _ _
    have hi1:W1.heap[w.heap.size]? = some (.stringIter s (i+(Utf8.decode s i).2)):=by rw [hW1];exact Lib.iterAt_heap _ _ _ _ _ hit
    have hsz:w.heap.size+1≤W1.heap.size:=(Array.getElem?_eq_some_iff.1 hi1).1
    have HO:=Lib.hid ho1
    have HB:=Lib.hid hb1
    have HI:=Lib.hid hi1
    have hd:=dec_in s i hp
    have hdp:=dec_pos s i
    have hrl:(Utf8.decode s i).1≤1114111:=Lib.rune_le s i
    have hM:=fun W=>may_any ((Utf8.decode s i).1:Int) W (by omega) (by omega)
    have hf:=fffd s i hp
    have ho:okAt s i=(mayP ((Utf8.decode s i).1:Int) && !decide ((Utf8.decode s i).1=65533∧(Utf8.decode s i).2=1)):=rfl
    have hpi:(i:Int)≤(s.size:Int):=by omega
    have HSS:Box (s.extract i s.size=s.extract i s.size):=⟨rfl⟩
    have HP:=Lib.hid (fun W=>hasPrefix_any (s.extract i s.size) ⟨#[239,191,189]⟩ W)
    have hpe:(⟨#[239,191,189]⟩:ByteArray).data.toList=[239,191,189]:=rfl
    rw [hpe] at HP
    have hTY:okAt s i=true→textAt s (i+(Utf8.decode s i).2)=textOK s:=fun h1=>by rw [←ht,textAt_yes s i hp h1]
    have hTN:okAt s i=false→textOK s=false:=fun h1=>by rw [←ht,textAt_no s i hp h1]
    have HTY:=Lib.hid hTY
    have HTN:=Lib.hid hTN
    have HI0:=Lib.hid hit
    clear hW1 hown hb hit ht ho1 hb1 hi1 hTY hTN hpe
    generalize (Utf8.decode s i).1=r at *
    generalize (Utf8.decode s i).2=d at *
    by_cases h65:r=65533
    ·subst h65
     rw [hf rfl] at HP
     have hm:mayP ((65533:Nat):Int)=true:=by decide
     rw [hm] at hM ho
     have HM:=Lib.hid hM
     clear hM hf hm
     by_cases hd1:d=1
     ·subst hd1
      have HT:=Box.mk (HTN.out (by rw [ho];rfl))
      clear ho
      go_wp2_with fail
      refine(HP.out _).mono ?_
      rintro e w1 ⟨rfl,rfl⟩
      go_wp2
      try rw [Exit.noGoto_ret]
      go_ret2
      exact⟨_,by rw [HX.out,HT.out];rfl,HB.out⟩
     ·have HT:=Lib.hid (HTY.out (by rw [ho];simpa using hd1))
      have hdd:decide (d≠1)=true:=by simpa using hd1
      rw [hdd] at HP
      clear ho hdd
      go_wp2_with fail
      refine(HP.out _).mono ?_
      rintro e w1 ⟨rfl,rfl⟩
      go_wp2_with fail
      refine(HM.out _).mono ?_
      rintro e w1 ⟨rfl,rfl⟩
      have ho2:=HO.out
      have hrn:Rd (W1.alloc (.cells #[.int .i64 65533] 3)) (W1.heap.size+1) 1 (some ⟨W1.heap.size,0,none⟩) 1 (ints .i64 [65533]):=rd_int1 W1 _ _ _
      go_wp2_with (at_builtin;refine app_i64s rfl _ _ rfl (w.heap.size+1) _ l.length _ rfl (ho2.alloc _) _ _ _ _ _ rfl hrn (by omega) (by simp;omega) ?_)
      intro v' w2 hown2 hg _
      have X2:Hid (Below w.heap.size w w2):=(HB.out.alloc (by omega) (.cells #[.int .i64 65533] 3)).grown hg (by simp;omega) (fun q hq=>by have:=(HO.out.lt q hq).1;omega)
      have I2:Hid (w2.heap[w.heap.size]? = some (.stringIter s (i+d))):=(hg.block w.heap.size (by simp;omega) (fun e=>by have:=(HO.out.lt _ e.symm).1;omega)).trans ((heap_alloc_old W1 _ _ (by omega)).trans HI.out)
      have HO2:=Lib.hid hown2
      clear hown2 hg ho2 hrn
      go_wp2
      go_roundw
      case rel=>exact⟨i+d,l++[65533],hd,by simp;omega,HT.out,by simpa using HO2.out,I2.out,X2.out⟩
      case measure=>rw [iter_pos I2.out,iter_pos HI0.out];omega
    ·have h65':((r:Int) == 65533)=false:=by rw [beq_eq_false_iff_ne];omega
     have ho':okAt s i=mayP (r:Int):=by rw [ho];simp [h65]
     clear HP hf ho
     cases hm:mayP (r:Int) with
     | false=>
      have HT:=Box.mk (HTN.out (by rw [ho',hm]))
      rw [hm] at hM
      have HM:=Lib.hid hM
      clear hM hm ho'
      go_wp2_with fail
      refine(HM.out _).mono ?_
      rintro e w1 ⟨rfl,rfl⟩
      go_wp2
      try rw [Exit.noGoto_ret]
      go_ret2
      exact⟨_,by rw [HX.out,HT.out];rfl,HB.out⟩
     | true=>
      have HT:=Lib.hid (HTY.out (by rw [ho',hm]))
      rw [hm] at hM
      have HM:=Lib.hid hM
      clear hM hm ho'
      go_wp2_with fail
      refine(HM.out _).mono ?_
      rintro e w1 ⟨rfl,rfl⟩
      have ho2:=HO.out
      have hrn:Rd (W1.alloc (.cells #[.int .i64 (r:Int)] 3)) (W1.heap.size+1) 1 (some ⟨W1.heap.size,0,none⟩) 1 (ints .i64 [(r:Int)]):=rd_int1 W1 _ _ _
      go_wp2_with (at_builtin;refine app_i64s rfl _ _ rfl (w.heap.size+1) _ l.length _ rfl (ho2.alloc _) _ _ _ _ _ rfl hrn (by omega) (by simp;omega) ?_)
      intro v' w2 hown2 hg _
      have X2:Hid (Below w.heap.size w w2):=(HB.out.alloc (by omega) (.cells #[.int .i64 (r:Int)] 3)).grown hg (by simp;omega) (fun q hq=>by have:=(HO.out.lt q hq).1;omega)
      have I2:Hid (w2.heap[w.heap.size]? = some (.stringIter s (i+d))):=(hg.block w.heap.size (by simp;omega) (fun e=>by have:=(HO.out.lt _ e.symm).1;omega)).trans ((heap_alloc_old W1 _ _ (by omega)).trans HI.out)
      have HO2:=Lib.hid hown2
      clear hown2 hg ho2 hrn
      go_wp2
      go_roundw
      case rel=>exact⟨i+d,l++[(r:Int)],hd,by simp;omega,HT.out,by simpa using HO2.out,I2.out,X2.out⟩
      case measure=>rw [iter_pos I2.out,iter_pos HI0.out];omega
   ·obtain rfl:i=s.size:=by omega
    have hnx:=fun ty=>Lib.run_next_end_at (P:=Tryz.prog) wr w.heap.size s s.size ty hit hp
    have HT:Box (textOK s=true):=⟨by rw [←ht,textAt_end s s.size (Nat.le_refl _)]⟩
    have HB:=Lib.hid hb
    clear hown hb hit ht
    go_wp2
    try rw [Exit.noGoto_ret]
    go_ret2
    exact⟨_,by rw [HX.out,HT.out];rfl,HB.out⟩
theorem check5_any (s:ByteArray) (w:World) (hs:s.size≤1000000000):Calls Tryz.prog 57 #[.string s] w fun e w'=>e=.returned (.int .i64 (textErr s))∧Below w.heap.size w w':=by
 have H:=Lib.hid (points_any s w hs)
 go_enter Tryz.func57,Tryz.ntmps57
 go_wp2_with fail
 refine H.out.mono ?_
 rintro e w1 ⟨v,rfl,hb1⟩
 go_wp2
 go_ret
 exact⟨rfl,hb1⟩
end Go.Proofs.YtnmnpnofdgdigaaGreatDoor
end
section
namespace Go.Proofs.YtnmnpnofdgdigaaGreatDoor
open Go.RowKit
set_option linter.unusedSimpArgs false
set_option linter.unusedVariables false
theorem or32_all:∀n:Fin 256,decide (97≤bits .or .u8 (n.val:Int) 32∧bits .or .u8 (n.val:Int) 32≤122)=decide ((97≤(n.val:Int)∧(n.val:Int)≤122)∨(65≤(n.val:Int)∧(n.val:Int)≤90)):=by decide +kernel
theorem or32 (c:Int) (h0:0≤c) (h1:c < 256):(97≤bits .or .u8 c 32∧bits .or .u8 c 32≤122)↔((97≤c∧c≤122)∨(65≤c∧c≤90)):=by
 have:=or32_all ⟨c.toNat,by omega⟩
 have e:((c.toNat:Nat):Int)=c:=by omega
 simp only [e] at this
 exact decide_eq_decide.1 this
theorem part_any (c:Int) (first:Bool) (w:World) (h0:0≤c) (h1:c < 256):Calls Tryz.prog 96 #[.int .u8 c,.bool first] w fun e w'=>e=.returned (.bool (partB c first))∧w=w':=by
 have HB:=Box.mk (or32 c h0 h1)
 cases first with
 | false=>
  have HX:Box (partB c false=decide (((97≤c∧c≤122)∨(65≤c∧c≤90)∨c=95)∨((48≤c∧c≤57)∨c=46∨c=45))):=⟨by unfold partB;first|rfl|decide|(rw [Bool.eq_iff_iff];simp only [Bool.and_eq_true,Bool.or_eq_true,Bool.not_eq_true',Bool.not_eq_true,decide_eq_true_eq,decide_eq_false_iff_not,beq_iff_eq,bne_iff_ne,beq_eq_false_iff_ne,bne_eq_false_iff_eq,Bool.false_eq_true,ne_eq,true_and,and_true,false_or,or_false,reduceCtorEq,false_iff,true_iff,iff_false,iff_true];omega)|(simp;done)|(simp;omega)⟩
  generalize partB c false=r at *
  go_enter Tryz.func96,Tryz.ntmps96
  go_wp2
  all_goals
   go_ret
   refine⟨ret_bool ?_,rfl⟩
   have hb:=HB.out
   rw [HX.out]
   generalize bits .or .u8 c 32=d at *
   (first|rfl|decide|(rw [Bool.eq_iff_iff];simp only [Bool.and_eq_true,Bool.or_eq_true,Bool.not_eq_true',Bool.not_eq_true,decide_eq_true_eq,decide_eq_false_iff_not,beq_iff_eq,bne_iff_ne,beq_eq_false_iff_ne,bne_eq_false_iff_eq,Bool.false_eq_true,ne_eq,true_and,and_true,false_or,or_false,reduceCtorEq,false_iff,true_iff,iff_false,iff_true];omega)|(simp;done)|(simp;omega))
 | true=>
  have HX:Box (partB c true=decide ((97≤c∧c≤122)∨(65≤c∧c≤90)∨c=95)):=⟨by simp [partB]⟩
  generalize partB c true=r at *
  go_enter Tryz.func96,Tryz.ntmps96
  go_wp2
  all_goals
   go_ret
   refine⟨ret_bool ?_,rfl⟩
   have hb:=HB.out
   rw [HX.out]
   generalize bits .or .u8 c 32=d at *
   (first|rfl|decide|(rw [Bool.eq_iff_iff];simp only [Bool.and_eq_true,Bool.or_eq_true,Bool.not_eq_true',Bool.not_eq_true,decide_eq_true_eq,decide_eq_false_iff_not,beq_iff_eq,bne_iff_ne,beq_eq_false_iff_ne,bne_eq_false_iff_eq,Bool.false_eq_true,ne_eq,true_and,and_true,false_or,or_false,reduceCtorEq,false_iff,true_iff,iff_false,iff_true];omega)|(simp;done)|(simp;omega))
end Go.Proofs.YtnmnpnofdgdigaaGreatDoor
end
section
namespace Go.Proofs.YtnmnpnofdgdigaaGreatDoor
open Go.RowKit
set_option linter.unusedSimpArgs false
set_option linter.unusedVariables false
def low1 (c:Int):Int:=if 65≤c∧c≤90 then c+32 else c
def lowI (s:ByteArray):ByteArray:=strOfNums ((numsOf s).map low1)
def lowK (l:List Int) (k:Nat):List Int:=(l.take k).map low1++l.drop k
theorem lowK_zero (l:List Int):lowK l 0=l:=by simp [lowK]
theorem lowK_len (l:List Int) (k:Nat):(lowK l k).length=l.length:=by simp [lowK];omega
theorem lowK_all (l:List Int):lowK l l.length=l.map low1:=by simp [lowK]
theorem lowK_at {l:List Int} {k:Nat} {x:Int} (h:l[k]? = some x):(lowK l k)[k]? = some x:=by
 have hk:=(List.getElem?_eq_some_iff.1 h).1
 unfold lowK
 rw [List.getElem?_append_right (by simp;omega)]
 simp [Nat.min_eq_left (Nat.le_of_lt hk),h]
theorem lowK_succ {l:List Int} {k:Nat} {x:Int} (h:l[k]? = some x):lowK l (k+1)=(lowK l k).set k (low1 x):=by
 have hk:=(List.getElem?_eq_some_iff.1 h).1
 unfold lowK
 rw [List.set_append_right _ _ (by simp;omega),List.take_add_one,h]
 have e:l.drop k=x :: l.drop (k+1):=by
  rw [List.drop_eq_getElem_cons hk]
  congr 1
  exact(List.getElem?_eq_some_iff.1 h).2
 rw [e]
 simp [Nat.min_eq_left (Nat.le_of_lt hk)]
theorem list_set_self {α:Type} {l:List α} {i:Nat} {x:α} (h:l[i]? = some x):l.set i x=l:=by
 apply List.ext_getElem?
 intro j
 by_cases hj:i=j
 ·subst hj
  rw [List.getElem?_set_self (List.getElem?_eq_some_iff.1 h).1,h]
 ·rw [List.getElem?_set_ne hj]
theorem low1_b8 {l:List Int} (h:B8 l):B8 (l.map low1):=by
 intro x hx
 obtain⟨c,hc,rfl⟩:=List.mem_map.1 hx
 have:=h c hc
 unfold low1
 split <;> omega
theorem lowI_size (s:ByteArray):(lowI s).size=s.size:=by
 unfold lowI
 have h:=numsOf_length (strOfNums ((numsOf s).map low1))
 rw [numsOf_str (low1_b8 (numsOf_b8 s)),List.length_map,numsOf_length] at h
 exact h.symm
theorem or32b_all:∀n:Fin 256,decide (65≤n.val∧n.val≤90)=true→bits .or .u8 (n.val:Int) 32=(n.val:Int)+32:=by decide +kernel
theorem or32b (c:Int) (h0:65≤c) (h1:c≤90):bits .or .u8 c 32=c+32:=by
 have:=or32b_all ⟨c.toNat,by omega⟩ (decide_eq_true (by show 65≤c.toNat∧c.toNat≤90;omega))
 have e:((c.toNat:Nat):Int)=c:=by omega
 simpa only [e] using this
def RowB (w:World) (g:Nat) (xs:List Int):Prop:=∃cur t f,w.heap[g]? = some (.cells cur t f)∧cur.size≤f.1∧xs.length≤cur.size∧∀(i:Nat) (x:Int),xs[i]? = some x→cur[i]? = some (.int .u8 x)
theorem RowB.cell {w:World} {g i:Nat} {xs:List Int} {x:Int} (h:RowB w g xs) (hx:xs[i]? = some x):w.cell? ⟨g,i,none⟩=some (.int .u8 x):=by
 obtain⟨cur,t,f,h1,h2,h3,h4⟩:=h
 simp [World.cell?,h1,h4 i x hx]
theorem RowB.frozen {w:World} {g i:Nat} {xs:List Int} (h:RowB w g xs) (hi:i < xs.length):w.frozen? ⟨g,i,none⟩=false:=by
 obtain⟨cur,t,⟨f1,f2⟩,h1,h2,h3,h4⟩:=h
 simp only [] at h2
 simp [World.frozen?,h1]
 omega
theorem RowB.set {w:World} {g i:Nat} {xs:List Int} (h:RowB w g xs) (hi:i < xs.length) (y:Int):RowB (w.setCell ⟨g,i,none⟩ (.int .u8 y)) g (xs.set i y):=by
 obtain⟨cur,t,f,h1,h2,h3,h4⟩:=h
 have hs:(w.setCell ⟨g,i,none⟩ (.int .u8 y)).heap[g]? = some (.cells (cur.setIfInBounds i (.int .u8 y)) t f):=by
  simp [World.setCell,Array.getElem?_modify,h1]
 refine⟨_,t,f,hs,by simpa using h2,by simpa using h3,fun k x hk=>?_⟩
 by_cases e:i=k
 ·subst e
  rw [List.getElem?_set_self hi] at hk
  simp only [Option.some.injEq] at hk
  subst hk
  rw [Array.getElem?_setIfInBounds_self_of_lt (by omega)]
 ·rw [List.getElem?_set_ne e] at hk
  rw [Array.getElem?_setIfInBounds_ne (by omega)]
  exact h4 k x hk
theorem RowB.conv {w:World} {g c:Nat} {xs:List Int} (h:RowB w g xs):(convert 179 9 (.slice (some ⟨g,0,none⟩) xs.length c)).run Tryz.prog w=.ok (.string (strOfNums xs)) w:=
 run_convert_bytes_arg w _ _ Tryz.underlying179 Tryz.underlying5 g 0 _ c xs rfl (fun i hi=>by
  rw [Nat.zero_add]
  rw [h.cell (List.getElem?_eq_getElem hi),List.getD_eq_getElem?_getD,List.getElem?_eq_getElem hi]
  rfl) _ Tryz.underlying9
theorem row_of_string (w:World) (s:ByteArray):∃c w',(convert 9 179 (.string s)).run Tryz.prog w=.ok (.slice (some ⟨w.heap.size,0,none⟩) s.size c) w'∧RowB w' w.heap.size (numsOf s)∧Below w.heap.size w w':=by
 have h:=run_bytes_of_string (P:=Tryz.prog) w 9 179 5 s Tryz.underlying9 Tryz.underlying179 Tryz.underlying5
 generalize grownCap w s.size 0 5=cp at h
 refine⟨_,_,h,⟨bytesRow s cp,5,((bytesRow s cp).size,(bytesRow s cp).size+1),?_,Nat.le_refl _,?_,?_⟩,(Below.refl _ _).drew.alloc (Nat.le_refl _) _⟩
 ·show(w.heap.push _)[w.heap.size]? = _
  simp
 ·rw [numsOf_length]
  simp [bytesRow]
 ·intro i x hx
  have hi:=(List.getElem?_eq_some_iff.1 hx).1
  rw [numsOf_length] at hi
  have hi':i < s.data.size:=hi
  rw [bytesRow_at s _ i hi']
  rw [numsOf_get s i hi] at hx
  simp only [Option.some.injEq] at hx
  rw [←hx]
  rfl
set_option maxHeartbeats 1000000 in
set_option maxRecDepth 10000 in
theorem lower_any (s:ByteArray) (w:World) (hs:s.size≤1000000000):Calls Tryz.prog 167 #[.string s] w fun e w'=>e=.returned (.string (lowI s))∧Below w.heap.size w w':=by
 obtain⟨c,w1,hconv,hrow,hb⟩:=row_of_string w s
 have HROW:=Lib.hid hrow
 have HB0:=Lib.hid hb
 have HX:Box (lowI s=strOfNums ((numsOf s).map low1)):=⟨rfl⟩
 have HN:=Lib.hid (numsOf_length s)
 have HB8:=Lib.hid (numsOf_b8 s)
 clear hrow hb
 generalize lowI s=r at *
 go_enter Tryz.func167,Tryz.ntmps167
 go_wp2
 go_loopw [4,5,10] (fun _ _ s10 wr=>∃k:Nat,k≤s.size∧s10=.int .i64 k∧Hid (RowB wr w.heap.size (lowK (numsOf s) k))∧Hid (Below w.heap.size w wr)) (fun _ _ s10 _=>s.size - (intOf s10).toNat)
 case atStart=>exact⟨0,Nat.zero_le _,rfl,by rw [lowK_zero];exact HROW,HB0⟩
 case round=>
  obtain⟨k,hk,rfl,HR,HB⟩:=hrel
  by_cases hlt:k < s.size
  ·obtain⟨x,hx⟩:∃x,(numsOf s)[k]? = some x:=⟨_,List.getElem?_eq_getElem (by rw [HN.out];exact hlt)⟩
   have d0:=HR.out.cell (lowK_at hx)
   have hx8:=HB8.out x (List.mem_of_getElem? hx)
   obtain⟨hx0,hx1⟩:=hx8
   have f0:=HR.out.frozen (i:=k) (by rw [lowK_len,HN.out];exact hlt)
   have HSU:=Lib.hid (lowK_succ hx)
   have HSELF:Hid ((lowK (numsOf s) k).set k x=lowK (numsOf s) k):=list_set_self (lowK_at hx)
   clear hx
   by_cases hup:65≤x∧x≤90
   ·obtain⟨hu1,hu2⟩:=hup
    have hor:=or32b x hu1 hu2
    have HL:Box (low1 x=x+32):=⟨if_pos ⟨hu1,hu2⟩⟩
    have HSET:Hid (RowB (wr.setCell ⟨w.heap.size,k,none⟩ (.int .u8 (x+32))) w.heap.size (lowK (numsOf s) (k+1))):=by rw [HSU.out,HL.out];exact HR.out.set (by rw [lowK_len,HN.out];exact hlt) _
    have HB2:Hid (Below w.heap.size w (wr.setCell ⟨w.heap.size,k,none⟩ (.int .u8 (x+32)))):=HB.out.setCell (p:=⟨w.heap.size,k,none⟩) (Nat.le_refl _) _
    go_wp2
    go_roundw
    case rel=>exact⟨k+1,by omega,by go_num,HSET,HB2⟩
    case measure=>simp [intOf];omega
   ·have HL:Box (low1 x=x):=⟨if_neg hup⟩
    have HSET:Hid (RowB wr w.heap.size (lowK (numsOf s) (k+1))):=by
     rw [HSU.out,HL.out,HSELF.out]
     exact HR
    have hcase:x < 65∨90 < x:=by omega
    clear hup
    rcases hcase with hc|hc
    all_goals
     go_wp2
     go_roundw
     case rel=>exact⟨k+1,by omega,by go_num,HSET,HB⟩
     case measure=>simp [intOf];omega
  ·obtain rfl:k=s.size:=by omega
   have hcv:=HR.out.conv (c:=c)
   rw [lowK_len,HN.out] at hcv
   have HE:Box (strOfNums (lowK (numsOf s) s.size)=r):=⟨by rw [HX.out,←HN.out,lowK_all]⟩
   rw [HE.out] at hcv
   go_wp2
   go_ret
   exact⟨rfl,HB.out⟩
end Go.Proofs.YtnmnpnofdgdigaaGreatDoor
end
section
namespace Go.Proofs.YtnmnpnofdgdigaaGreatDoor
open Go.RowKit
set_option linter.unusedSimpArgs false
set_option linter.unusedVariables false
set_option maxHeartbeats 1000000 in
set_option maxRecDepth 10000 in
theorem name_any (s:ByteArray) (w:World) (hs:s.size≤1000000000):Calls Tryz.prog 42 #[.string s] w fun e w'=>e=.returned (.bool (nameI s))∧w=w':=by
 rcases Nat.eq_zero_or_pos s.size with h0|h0
 ·have he:=str_em s h0
  have HX:Box (nameI s=false):=⟨by rw [nameI_all,h0];rfl⟩
  have hl:(s.size:Int)=0:=by omega
  generalize nameI s=r at *
  go_enter Tryz.func42,Tryz.ntmps42
  go_wp2
  go_step3
  go_wp2
  go_step3
  go_wp2
  go_loop [3,9] (fun b i=>b=.bool false∧i=.int .i64 0) (fun _ i=>0)
  case atStart=>exact⟨rfl,rfl⟩
  case round=>
   obtain⟨rfl,rfl⟩:=hrel
   go_wp2
   go_ret
   exact⟨ret_bool HX.out.symm,rfl⟩
 ·have hne:=str_ne s h0
  have HX:Box (nameI s=nameT s s.size):=⟨by rw [nameI_all,decide_eq_true h0];rfl⟩
  go_enter Tryz.func42,Tryz.ntmps42
  go_wp2
  go_step3
  go_wp2
  go_step3
  go_wp2
  go_loop [3,9] (fun b i=>∃k:Nat,k≤s.size∧b=.bool (nameT s k)∧nameT s k=true∧i=.int .i64 k) (fun _ i=>s.size - (intOf i).toNat)
  case atStart=>exact⟨0,Nat.zero_le _,rfl,rfl,rfl⟩
  case round=>
   obtain⟨k,hk,rfl,ht,rfl⟩:=hrel
   rw [ht]
   by_cases hlt:k < s.size
   ·have HS:Box (nameT s (k+1)=partB (b_at s k:Int) (decide (k=0))):=⟨by rw [nameT_succ,ht,nums_at s k hlt];rfl⟩
    have HNO:=Lib.hid (nameT_no s (k+1) s.size hlt)
    have hxl:b_at s k < 256:=b_lt s k
    have hx:=at_eq s k hlt
    have HP:=Lib.hid (fun W=>part_any (b_at s k:Int) (decide (k=0)) W (by omega) (by omega))
    clear ht
    generalize b_at s k=x at *
    by_cases hk0:k=0
    ·subst hk0
     rw [decide_eq_true (rfl:(0:Nat)=0)] at HS HP
     generalize hq:partB (x:Int) true=q at *
     clear hq
     cases q with
     | false=>
      go_wp2_with fail
      refine(HP.out _).mono ?_
      rintro e w1 ⟨rfl,rfl⟩
      go_wp2
      try rw [Exit.noGoto_ret]
      go_ret
      exact⟨ret_bool (by rw [HX.out,HNO.out HS.out]),rfl⟩
     | true=>
      go_wp2_with fail
      refine(HP.out _).mono ?_
      rintro e w1 ⟨rfl,rfl⟩
      go_wp2
      go_round
      case rel=>exact⟨0+1,by omega,by rw [HS.out],HS.out,by go_num⟩
      case measure=>simp [intOf];omega
    ·rw [decide_eq_false hk0] at HS HP
     have hk1:((k:Int) == 0)=false:=by rw [beq_eq_false_iff_ne];omega
     generalize hq:partB (x:Int) false=q at *
     clear hq hk0
     cases q with
     | false=>
      go_wp2_with fail
      refine(HP.out _).mono ?_
      rintro e w1 ⟨rfl,rfl⟩
      go_wp2
      try rw [Exit.noGoto_ret]
      go_ret
      exact⟨ret_bool (by rw [HX.out,HNO.out HS.out]),rfl⟩
     | true=>
      go_wp2_with fail
      refine(HP.out _).mono ?_
      rintro e w1 ⟨rfl,rfl⟩
      go_wp2
      go_round
      case rel=>exact⟨k+1,by omega,by rw [HS.out],HS.out,by go_num⟩
      case measure=>simp [intOf];omega
   ·obtain rfl:k=s.size:=by omega
    have HT:=Box.mk ht
    clear ht
    go_wp2
    try rw [Exit.noGoto_ret]
    go_ret
    exact⟨ret_bool (by rw [HX.out,HT.out]),rfl⟩
end Go.Proofs.YtnmnpnofdgdigaaGreatDoor
end
section
namespace Go.Proofs.YtnmnpnofdgdigaaGreatDoor
open Go.RowKit
set_option linter.unusedSimpArgs false
set_option linter.unusedVariables false
end Go.Proofs.YtnmnpnofdgdigaaGreatDoor
end
section
namespace Go.Proofs.YtnmnpnofdgdigaaGreatDoor
open Go.RowKit
set_option linter.unusedSimpArgs false
set_option linter.unusedVariables false
theorem idx_none (s:ByteArray) (c:UInt8) (h:fstL (numsOf s) (c.toNat:Int)=none):Lib.indexByte s.data.toList c=-1:=by
 by_cases hm:∃o:Nat,Lib.indexByte s.data.toList c=o
 ·obtain⟨o,ho⟩:=hm
  have h1:=(Lib.indexByte_some ho).1
  exact absurd rfl (fstL_none h o (c.toNat:Int) (by unfold numsOf;rw [List.getElem?_map,h1];rfl))
 ·have:=Lib.indexByte_ge s.data.toList c
  rcases (by omega:Lib.indexByte s.data.toList c=-1∨0≤Lib.indexByte s.data.toList c) with h1|h1
  ·exact h1
  ·exact absurd ⟨(Lib.indexByte s.data.toList c).toNat,by omega⟩ hm
theorem idx_some (s:ByteArray) (c:UInt8) (i:Nat) (h:fstL (numsOf s) (c.toNat:Int)=some i):Lib.indexByte s.data.toList c=(i:Int)∧i < s.size:=by
 obtain⟨h1,h2⟩:=fstL_some h
 have hlt:i < s.size:=by rw [←numsOf_length];exact(List.getElem?_eq_some_iff.1 h1).1
 refine⟨?_,hlt⟩
 have get:∀k:Nat,s.data.toList[k]? = some c→(numsOf s)[k]? = some (c.toNat:Int):=fun k hk=>by unfold numsOf;rw [List.getElem?_map,hk];rfl
 have back:s.data.toList[i]? = some c:=by
  unfold numsOf at h1
  rw [List.getElem?_map,Option.map_eq_some_iff] at h1
  obtain⟨b,hb,e⟩:=h1
  rw [hb]
  congr 1
  exact UInt8.toNat_inj.1 (by omega)
 have hge:=Lib.indexByte_ge s.data.toList c
 have hcase:Lib.indexByte s.data.toList c=-1∨∃o:Nat,Lib.indexByte s.data.toList c=o:=by
  by_cases h0:Lib.indexByte s.data.toList c=-1
  ·exact .inl h0
  ·exact .inr ⟨(Lib.indexByte s.data.toList c).toNat,by omega⟩
 rcases hcase with h3|⟨o,ho⟩
 ·exact absurd back (Lib.indexByte_none h3 i)
 ·obtain⟨g1,g2⟩:=Lib.indexByte_some ho
  rcases Nat.lt_trichotomy o i with h4|h4|h4
  ·exact absurd rfl (h2 o _ h4 (get o g1))
  ·rw [ho,h4]
  ·exact absurd back (g2 i h4)
def cutI (s:ByteArray) (c:Int):ByteArray×ByteArray×Bool:=match fstL (numsOf s) c with
 | none=>(s,⟨#[]⟩,false)
 | some i=>(s.extract 0 i,s.extract (i+1) s.size,true)
def CutPost (s:ByteArray) (c:Int) (w:World) (e:Ending) (w':World):Prop:=e=.returned (.tuple #[.string (cutI s c).1,.string (cutI s c).2.1,.bool (cutI s c).2.2])∧Below w.heap.size w w'
set_option maxHeartbeats 1000000 in
set_option maxRecDepth 10000 in
theorem cut_any (s:ByteArray) (c:UInt8) (w:World) (hs:s.size≤1000000000):Calls Tryz.prog 200 #[.string s,.string ⟨#[c]⟩] w (CutPost s (c.toNat:Int) w):=by
 have HI:=Lib.hid (fun W=>(Tryz.stringslite_Index_one s c W).mono fun e w' h=>(⟨h.1,h.2.symm⟩:e=_∧W=w'))
 cases hf:fstL (numsOf s) (c.toNat:Int) with
 | none=>
  have HC:Box (cutI s (c.toNat:Int)=(s,⟨#[]⟩,false)):=⟨by unfold cutI;rw [hf]⟩
  rw [idx_none s c hf] at HI
  clear hf
  go_enter Tryz.func200,Tryz.ntmps200
  go_wp2_with fail
  refine(HI.out _).mono ?_
  rintro e w1 ⟨rfl,rfl⟩
  go_wp2
  go_ret3
  exact⟨by rw [HC.out];rfl,Below.refl _ _⟩
 | some i=>
  obtain⟨h1,h2⟩:=idx_some s c i hf
  have HC:Box (cutI s (c.toNat:Int)=(s.extract 0 i,s.extract (i+1) s.size,true)):=⟨by unfold cutI;rw [hf]⟩
  rw [h1] at HI
  have hz:(⟨#[c]⟩:ByteArray).size=1:=rfl
  have hii:(i:Int)≤(s.size:Int):=by omega
  have hi1:(i:Int)+1≤(s.size:Int):=by omega
  have hf1:∀W,(Instr.slice 9 (.string s) none (some (.int .i64 (i:Int))) none).run Tryz.prog W=.ok (.string (s.extract 0 i)) W:=fun W=>
   run_slice_string_h (P:=Tryz.prog) (w:=W) (t:=9) (s:=s) Tryz.underlying9 .i64 (i:Int) (by omega) (by omega)
  have hf2:∀W,(Instr.slice 9 (.string s) (some (.int .i64 ((i:Int)+1))) none none).run Tryz.prog W=.ok (.string (s.extract (i+1) s.size)) W:=fun W=>by
   have h1:=run_slice_string_l (P:=Tryz.prog) (w:=W) (t:=9) (s:=s) Tryz.underlying9 .i64 ((i:Int)+1) (by omega) (by omega)
   rwa [show((i:Int)+1).toNat=i+1 by omega] at h1
  clear hf h1
  go_enter Tryz.func200,Tryz.ntmps200
  go_wp2_with fail
  refine(HI.out _).mono ?_
  rintro e w1 ⟨rfl,rfl⟩
  go_wp2_with fail
  refine wp_region_typed rfl (by kernel_rfl) (by kernel_rfl) ?_
  repeat (first|refine tw_skip (wd_no rfl rfl rfl) ?_|refine tw_mv (.inl rfl) rfl (wdA rfl) ?_|refine tw_mv (.inr rfl) rfl (wdA rfl) ?_|refine tw_pickL rfl rfl rfl (wdA rfl) ?_|refine tw_op1 _ rfl rfl (wdA rfl) (fun ρ W hW h1=>by simp only [execOp,h1];go_simp;first|done|rfl) ?_|refine tw_op2 _ rfl rfl rfl (wdA rfl) (fun ρ W hW h1 h2=>by simp only [execOp,h1,h2];go_simp;first|done|rfl) ?_)
  refine tw_op2 (x:=.tmp 13) (y:=.tmp 14) (c:=.string s) (e:=.int .i64 (i:Int)) (.string (s.extract 0 i)) rfl rfl rfl (wdA rfl) (fun ρ W hW h1 h2=>by simp only [execOp,h1,h2,Option.map];go_simp) ?_
  repeat (first|refine tw_skip (wd_no rfl rfl rfl) ?_|refine tw_mv (.inl rfl) rfl (wdA rfl) ?_|refine tw_mv (.inr rfl) rfl (wdA rfl) ?_|refine tw_pickL rfl rfl rfl (wdA rfl) ?_|refine tw_op1 _ rfl rfl (wdA rfl) (fun ρ W hW h1=>by simp only [execOp,h1];go_simp;first|done|rfl) ?_|refine tw_op2 _ rfl rfl rfl (wdA rfl) (fun ρ W hW h1 h2=>by simp only [execOp,h1,h2];go_simp;first|done|rfl) ?_)
  refine tw_lens (s:=⟨#[c]⟩) rfl rfl (wdA rfl) ?_
  refine tw_op2 (x:=.tmp 17) (y:=.tmp 19) (c:=.int .i64 (i:Int)) (e:=.int .i64 1) (.int .i64 ((i:Int)+1)) rfl rfl rfl (wdA rfl) (fun ρ W hW h1 h2=>by simp only [execOp,h1,h2];go_simp;rw [IntKind.wrap_i64];omega) ?_
  refine tw_op2 (x:=.tmp 16) (y:=.tmp 20) (c:=.string s) (e:=.int .i64 ((i:Int)+1)) (.string (s.extract (i+1) s.size)) rfl rfl rfl (wdA rfl) (fun ρ W hW h1 h2=>by simp only [execOp,h1,h2,Option.map];go_simp) ?_
  repeat (first|refine tw_skip (wd_no rfl rfl rfl) ?_|refine tw_mv (.inl rfl) rfl (wdA rfl) ?_|refine tw_mv (.inr rfl) rfl (wdA rfl) ?_|refine tw_pickL rfl rfl rfl (wdA rfl) ?_|refine tw_op1 _ rfl rfl (wdA rfl) (fun ρ W hW h1=>by simp only [execOp,h1];go_simp;first|done|rfl) ?_|refine tw_op2 _ rfl rfl rfl (wdA rfl) (fun ρ W hW h1 h2=>by simp only [execOp,h1,h2];go_simp;first|done|rfl) ?_)
  dsimp only [wpT,List.reverse,List.reverseAux,FinT]
  intro W hW _
  simp only [Act.put,List.setIfInBounds_toArray,List.set_cons_zero,List.set_cons_succ]
  have XW:=Lib.hid ((Below.refl w.heap.size w).drew.trans (Below.mono hW (Nat.le_refl _)))
  clear hW
  go_wp2
  go_ret3
  exact⟨by rw [HC.out];rfl,XW.out⟩
end Go.Proofs.YtnmnpnofdgdigaaGreatDoor
end
section
namespace Go.Proofs.YtnmnpnofdgdigaaGreatDoor
def emB:ByteArray:=⟨#[]⟩
def textJ (j:JidL):ByteArray:=(if isEmp j.loc then j.dom else j.loc++(⟨#[64]⟩:ByteArray)++j.dom)++(if isEmp j.res then emB else(⟨#[47]⟩:ByteArray)++j.res)
def readJ (s:ByteArray):JidL:=
 if (cutI (lowI (cutI s 47).1) 64).2.2 then⟨(cutI (lowI (cutI s 47).1) 64).1,(cutI (lowI (cutI s 47).1) 64).2.1,(cutI s 47).2.1⟩ else⟨emB,lowI (cutI s 47).1,(cutI s 47).2.1⟩
def hasL (s:ByteArray):Bool:=(cutI (lowI (cutI s 47).1) 64).2.2
def hasR (s:ByteArray):Bool:=(cutI s 47).2.2
def parseI (s:ByteArray):Option JidL:=
 if (hasL s && isEmp (readJ s).loc || hasR s && isEmp (readJ s).res || !jidI (readJ s)) then none else some (readJ s)
def wantJ (s:ByteArray):ByteArray:=if hasR s then lowI (cutI s 47).1++(⟨#[47]⟩:ByteArray)++(readJ s).res else lowI (cutI s 47).1
theorem data_app (a b:ByteArray):(a++b).data.toList=a.data.toList++b.data.toList:=by simp
theorem ba_ext {a b:ByteArray} (h:a.data.toList=b.data.toList):a=b:=by
 cases a;cases b
 simp only [Array.toList_inj] at h
 rw [h]
theorem app_size (a b:ByteArray):(a++b).size=a.size+b.size:=by simp
theorem app_em (a:ByteArray):a++emB=a:=by apply ba_ext;simp [emB]
theorem app_asc (a b c:ByteArray):a++b++c=a++(b++c):=by apply ba_ext;simp
theorem cut_no {s:ByteArray} {c:Int} (h:(cutI s c).2.2=false):(cutI s c).1=s∧(cutI s c).2.1=emB:=by
 unfold cutI at h ⊢
 cases hf:fstL (numsOf s) c with
 | none=>exact⟨rfl,rfl⟩
 | some i=>rw [hf] at h;cases h
theorem cut_yes {s:ByteArray} {b:UInt8} (h:(cutI s (b.toNat:Int)).2.2=true):(cutI s (b.toNat:Int)).1++⟨#[b]⟩++(cutI s (b.toNat:Int)).2.1=s:=by
 unfold cutI at h ⊢
 cases hf:fstL (numsOf s) (b.toNat:Int) with
 | none=>rw [hf] at h;cases h
 | some i=>
  obtain⟨h1,-⟩:=fstL_some hf
  have hi:=(List.getElem?_eq_some_iff.1 h1).1
  rw [numsOf_length] at hi
  have hl:i < s.data.toList.length:=hi
  rw [numsOf_get s i hi] at h1
  simp only [Option.some.injEq] at h1
  have hb:s.data.toList[i]=b:=by
   rw [←UInt8.toNat_inj]
   have:((s[i]'hi).toNat:Int)=b.toNat:=h1
   have e:s.data.toList[i]=s[i]'hi:=rfl
   rw [e]
   omega
  apply ba_ext
  simp only [data_app]
  have e1:(s.extract 0 i).data.toList=s.data.toList.take i:=by simp [ByteArray.data_extract]
  have e2:(s.extract (i+1) s.size).data.toList=s.data.toList.drop (i+1):=by
   simp [ByteArray.data_extract]
   exact List.take_of_length_le (by rw [List.length_drop];exact Nat.le_refl _)
  rw [e1,e2]
  show s.data.toList.take i++[b]++s.data.toList.drop (i+1)=_
  rw [←hb,List.append_assoc,List.singleton_append,←List.drop_eq_getElem_cons hl,List.take_append_drop]
theorem size_ne {a b:ByteArray} (h:a.size≠b.size):eqS a b=false:=by
 unfold eqS
 rw [beq_eq_false_iff_ne]
 intro e
 exact h (by rw [bytes_eq e])
theorem eqS_self (a:ByteArray):eqS a a=true:=by unfold eqS;exact beq_self_eq_true _
theorem emp_size {s:ByteArray} (h:isEmp s=true):s.size=0:=of_decide_eq_true h
theorem parse_law (s:ByteArray):eqS (textJ (readJ s)) (wantJ s)=!(hasL s && isEmp (readJ s).loc || hasR s && isEmp (readJ s).res):=by
 have hres:(readJ s).res=(cutI s 47).2.1:=by unfold readJ;split <;> rfl
 have h64:(((64:UInt8).toNat:Nat):Int)=64:=rfl
 have s64:((⟨#[64]⟩:ByteArray)).size=1:=rfl
 have s47:((⟨#[47]⟩:ByteArray)).size=1:=rfl
 have sem:emB.size=0:=rfl
 have hhead:(hasL s=false∧(readJ s).loc=emB∧(readJ s).dom=lowI (cutI s 47).1)∨(hasL s=true∧(readJ s).loc++(⟨#[64]⟩:ByteArray)++(readJ s).dom=lowI (cutI s 47).1):=by
  cases h:hasL s with
  | false=>
   left
   unfold hasL at h
   unfold readJ
   rw [h]
   exact⟨rfl,rfl,rfl⟩
  | true=>
   right
   unfold hasL at h
   unfold readJ
   rw [h]
   refine⟨rfl,?_⟩
   rw [←h64] at h ⊢
   exact cut_yes h
 have htail:hasR s=false→(readJ s).res=emB:=fun h=>by rw [hres];exact(cut_no h).2
 unfold textJ wantJ
 generalize readJ s=j at *
 obtain⟨l,d,r⟩:=j
 dsimp only at *
 generalize lowI (cutI s 47).1=L at *
 clear hres
 have key:∀(H:ByteArray),(H=L∧isEmp l=(isEmp l)∧(hasL s && isEmp l)=false)∨(H.size+1=L.size∧(hasL s && isEmp l)=true)→
   eqS (H++(if isEmp r then emB else(⟨#[47]⟩:ByteArray)++r)) (if hasR s then L++(⟨#[47]⟩:ByteArray)++r else L)=!(hasL s && isEmp l || hasR s && isEmp r):=by
  rintro H (⟨rfl,-,hl⟩|⟨hsz,hl⟩)
  ·rw [hl]
   cases hr:hasR s with
   | false=>
    have:=htail hr
    subst this
    rw [if_pos (show isEmp emB=true from rfl),app_em]
    simp only [Bool.false_eq_true,if_false,Bool.false_and,Bool.or_false,Bool.not_false]
    exact eqS_self _
   | true=>
    cases he:isEmp r with
    | true=>
     have hz:=emp_size he
     simp only [if_true,Bool.and_true,Bool.or_true,Bool.not_true]
     apply size_ne
     rw [app_size,app_size,app_size,sem,s47,hz]
     omega
    | false=>
     simp only [if_true,Bool.false_eq_true,if_false,Bool.and_false,Bool.or_false,Bool.not_false]
     rw [app_asc]
     exact eqS_self _
  ·rw [hl]
   simp only [Bool.true_or,Bool.not_true]
   apply size_ne
   cases hr:hasR s with
   | false=>
    have:=htail hr
    subst this
    rw [if_pos (show isEmp emB=true from rfl),app_em]
    simp only [Bool.false_eq_true,if_false]
    omega
   | true=>
    cases he:isEmp r with
    | true=>
     have hz:=emp_size he
     simp only [if_true]
     rw [app_size,app_size,app_size,sem,s47,hz]
     omega
    | false=>
     simp only [if_true,Bool.false_eq_true,if_false]
     rw [app_size,app_size,app_size,app_size,s47]
     omega
 rcases hhead with ⟨h1,h2,h3⟩|⟨h1,h2⟩
 ·subst h2 h3
  rw [if_pos (show isEmp emB=true from rfl)]
  exact key _ (.inl ⟨rfl,rfl,by rw [h1];rfl⟩)
 ·cases he:isEmp l with
  | true=>
   have hz:=emp_size he
   rw [if_pos rfl]
   have k:=key d (.inr ⟨by rw [←h2,app_size,app_size,s64,hz];omega,by rw [h1,he];rfl⟩)
   rw [he] at k
   exact k
  | false=>
   rw [if_neg (by decide)]
   have k:=key _ (.inl ⟨h2,rfl,by rw [h1,he];rfl⟩)
   rw [he] at k
   exact k
end Go.Proofs.YtnmnpnofdgdigaaGreatDoor
end
