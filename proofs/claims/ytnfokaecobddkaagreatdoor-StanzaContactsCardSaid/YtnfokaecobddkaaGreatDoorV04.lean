/- Part 4 of a proof laid in parts, one behind the other; no condition of its own. -/
import Derived.Test.YtnfokaecobddkaaGreatDoorV03
import Derived.Lib.OthersKept
import Derived.Test.YtnfokaecobddkaaGreatDoorV01
import Derived.Laws.IdiomStrings
import Derived.Lib.IndexLaws
import Derived.Test.YtnfokaecobddkaaGreatDoorV02
import Derived.Deep.Slices
import Derived.Deep.Fields
import Derived.ChangeSame
set_option linter.all false
section
namespace Go.Proofs.YtnfokaecobddkaaGreatDoor
open Go.RowKit
set_option linter.unusedSimpArgs false
set_option linter.unusedVariables false
theorem valid_may (n:Int) (h0:0≤n):Lib.validRune n=decide (n < 55296∨(57343 < n∧n≤1114111)):=by
 unfold Lib.validRune
 first|rfl|decide|(rw [Bool.eq_iff_iff];simp only [Bool.and_eq_true,Bool.or_eq_true,Bool.not_eq_true',Bool.not_eq_true,decide_eq_true_eq,decide_eq_false_iff_not,beq_iff_eq,bne_iff_ne,beq_eq_false_iff_ne,bne_eq_false_iff_eq,Bool.false_eq_true,ne_eq,true_and,and_true,false_or,or_false,reduceCtorEq,false_iff,true_iff,iff_false,iff_true];omega)|(simp;done)|(simp;omega)
theorem may_any (n:Int) (w:World) (h0:0≤n) (h1:n≤2147483647):Calls Tryz.prog 124 #[.int .i64 n] w fun e w'=>e=.returned (.bool (mayP n))∧w=w':=by
 have HV:=Lib.hid (fun W=>Tryz.utf8_ValidRune n W)
 rw [valid_may n h0] at HV
 have hc:∃r,mayP n=r∧(((n=9∨n=10∨n=13)∧r=true)∨((¬n=9∧¬n=10∧¬n=13)∧(n < 32∨n=65534∨n=65535∨1114111 < n)∧r=false)∨((32≤n∧¬n=65534∧¬n=65535∧n≤1114111)∧r=decide (n < 55296∨(57343 < n∧n≤1114111)))):=by
  refine⟨_,rfl,?_⟩
  unfold mayP
  by_cases h:n < 32
  ·rw [if_pos h]
   by_cases h2:n=9∨n=10∨n=13
   ·exact .inl ⟨h2,by simpa using h2⟩
   ·exact .inr (.inl ⟨by omega,.inl h,by simpa using h2⟩)
  ·rw [if_neg h]
   by_cases h2:n=65534∨n=65535∨1114111 < n
   ·exact .inr (.inl ⟨by omega,.inr h2,by rw [decide_eq_false_iff_not];omega⟩)
   ·refine .inr (.inr ⟨by omega,?_⟩)
    first|rfl|decide|(rw [Bool.eq_iff_iff];simp only [Bool.and_eq_true,Bool.or_eq_true,Bool.not_eq_true',Bool.not_eq_true,decide_eq_true_eq,decide_eq_false_iff_not,beq_iff_eq,bne_iff_ne,beq_eq_false_iff_ne,bne_eq_false_iff_eq,Bool.false_eq_true,ne_eq,true_and,and_true,false_or,or_false,reduceCtorEq,false_iff,true_iff,iff_false,iff_true];omega)|(simp;done)|(simp;omega)
 obtain⟨r,hr,hc⟩:=hc
 rw [hr]
 clear hr
 rcases hc with ⟨h,rfl⟩|⟨⟨k1,k2,k3⟩,h,rfl⟩|⟨⟨k1,k2,k3,k4⟩,rfl⟩
 ·rcases h with rfl|rfl|rfl
  all_goals
   go_enter Tryz.func124,Tryz.ntmps124
   go_wp2
   go_ret
   exact⟨rfl,rfl⟩
 ·have q1:(n == 9)=false:=by simpa using k1
  have q2:(n == 10)=false:=by simpa using k2
  have q3:(n == 13)=false:=by simpa using k3
  rcases h with h|rfl|rfl|h
  all_goals
   go_enter Tryz.func124,Tryz.ntmps124
   go_wp2
   all_goals first
    | (go_ret;exact⟨rfl,rfl⟩)
    | (exfalso;omega)
 ·have q1:(n == 9)=false:=by rw [beq_eq_false_iff_ne];omega
  have q2:(n == 10)=false:=by rw [beq_eq_false_iff_ne];omega
  have q3:(n == 13)=false:=by rw [beq_eq_false_iff_ne];omega
  have q4:(n == 65534)=false:=by simpa using k2
  have q5:(n == 65535)=false:=by simpa using k3
  go_enter Tryz.func124,Tryz.ntmps124
  go_wp2_with fail
  refine(HV.out _).mono ?_
  rintro e w1 ⟨rfl,rfl⟩
  go_wp2
  go_ret
  exact⟨ret_bool (by first|rfl|decide|(rw [Bool.eq_iff_iff];simp only [Bool.and_eq_true,Bool.or_eq_true,Bool.not_eq_true',Bool.not_eq_true,decide_eq_true_eq,decide_eq_false_iff_not,beq_iff_eq,bne_iff_ne,beq_eq_false_iff_ne,bne_eq_false_iff_eq,Bool.false_eq_true,ne_eq,true_and,and_true,false_or,or_false,reduceCtorEq,false_iff,true_iff,iff_false,iff_true];omega)|(simp;done)|(simp;omega)),rfl⟩
theorem fffd_list (l:List UInt8) (h:0 < l.length) (hr:(Lib.decodeN l.length (l.getD 0 0).toNat (l.getD 1 0).toNat (l.getD 2 0).toNat (l.getD 3 0).toNat).1=65533) :
  [239,191,189].isPrefixOf l=decide ((Lib.decodeN l.length (l.getD 0 0).toNat (l.getD 1 0).toNat (l.getD 2 0).toNat (l.getD 3 0).toNat).2≠1):=by
 match l,h with
 | [a],_=>
  have hs:=Lib.decodeN_shape 1 a.toNat 0 0 0
  have ha:=a.toNat_lt
  simp only [List.length_cons,List.length_nil,List.getD_cons_zero,List.getD_cons_succ,List.getD_nil,Nat.zero_add] at hr ⊢
  have e:([239,191,189]:List UInt8).isPrefixOf [a]=false:=by simp [List.isPrefixOf]
  rw [e]
  symm
  rw [decide_eq_false_iff_not]
  rcases hs with ⟨h1,e⟩|⟨_,h1,_⟩|⟨_,h1,_⟩|⟨_,h1,_⟩|e
  ·have e':Lib.decodeN 1 a.toNat (UInt8.toNat 0) (UInt8.toNat 0) (UInt8.toNat 0)=(a.toNat,1):=e
   rw [e'];simp
  ·omega
  ·omega
  ·omega
  ·have e':Lib.decodeN 1 a.toNat (UInt8.toNat 0) (UInt8.toNat 0) (UInt8.toNat 0)=(65533,1):=e
   rw [e'];simp
 | [a,b],_=>
  have hs:=Lib.decodeN_shape 2 a.toNat b.toNat 0 0
  have ha:=a.toNat_lt
  simp only [List.length_cons,List.length_nil,List.getD_cons_zero,List.getD_cons_succ,List.getD_nil,Nat.zero_add,Nat.reduceAdd] at hr ⊢
  have e:([239,191,189]:List UInt8).isPrefixOf [a,b]=false:=by simp [List.isPrefixOf]
  rw [e]
  symm
  rw [decide_eq_false_iff_not]
  have hz:UInt8.toNat 0=0:=rfl
  rw [hz] at hr ⊢
  rcases hs with ⟨h1,e⟩|⟨k0,h1,k1,k2,e⟩|⟨_,h1,_⟩|⟨_,h1,_⟩|e
  ·rw [e];simp
  ·rw [e] at hr;simp only [] at hr;omega
  ·omega
  ·omega
  ·rw [e];simp
 | a :: b :: c :: t,_=>
  have hs:=Lib.decodeN_shape (t.length+1+1+1) a.toNat b.toNat c.toNat (t.getD 0 0).toNat
  have ha:=a.toNat_lt
  have hb:=b.toNat_lt
  have hc:=c.toNat_lt
  simp only [List.length_cons,List.getD_cons_zero,List.getD_cons_succ] at hr ⊢
  have e:([239,191,189]:List UInt8).isPrefixOf (a :: b :: c :: t)=decide (a.toNat=239∧b.toNat=191∧c.toNat=189):=by
   simp only [List.isPrefixOf,Bool.and_true]
   rw [Bool.eq_iff_iff]
   simp only [Bool.and_eq_true,beq_iff_eq,decide_eq_true_eq,←UInt8.toNat_inj]
   simp
   omega
  rw [e]
  have hgood:a.toNat=239∧b.toNat=191∧c.toNat=189→Lib.decodeN (t.length+1+1+1) a.toNat b.toNat c.toNat (t.getD 0 0).toNat=(65533,3):=by
   rintro ⟨e1,e2,e3⟩
   rw [e1,e2,e3]
   unfold Lib.decodeN
   rw [if_neg (by omega),if_neg (by omega),if_pos (by omega),if_pos (by omega)]
  generalize Lib.decodeN (t.length+1+1+1) a.toNat b.toNat c.toNat (t.getD 0 0).toNat=D at *
  rcases hs with ⟨h1,rfl⟩|⟨k0,h1,k1,k2,rfl⟩|⟨k0,h1,k1,k2,k3,k4,rfl⟩|⟨k0,h1,k1,k2,k3,k4,k5,rfl⟩|rfl
  all_goals
   simp only [] at hr ⊢
   rw [decide_eq_decide]
   first
    | omega
    | (refine⟨fun h=>?_,fun h=>?_⟩ <;> first|(have:=hgood h;simp at this;done)|(exact absurd rfl h)|omega)
theorem fffd (s:ByteArray) (i:Nat) (h:i < s.size) (hr:(Utf8.decode s i).1=65533):Lib.hasPrefix (s.extract i s.size).data.toList [239,191,189]=decide ((Utf8.decode s i).2≠1):=by
 have hl:0 < (s.extract i s.size).data.toList.length:=by
  have:(s.extract i s.size).data.toList.length=(s.extract i s.size).size:=rfl
  rw [this,ext_size];omega
 have hd:Utf8.decode s i=Lib.decodeN (s.extract i s.size).data.toList.length ((s.extract i s.size).data.toList.getD 0 0).toNat ((s.extract i s.size).data.toList.getD 1 0).toNat ((s.extract i s.size).data.toList.getD 2 0).toNat ((s.extract i s.size).data.toList.getD 3 0).toNat:=by
  rw [←dec_ext s i,Lib.decode_N]
  rfl
 rw [hd] at hr ⊢
 exact fffd_list _ hl hr
theorem own_iter {w:World} {base k:Nat} {e:TypeId} {z:Nat} {v:Value} {n:Nat} {xs:List Value} (h:w.ownsRow base e z v n xs) (hk:k < base) (s:ByteArray) (p:Nat):(w.iterAt k s p).ownsRow base e z v n xs:=
 h.kept (row:=some k) ⟨rfl,rfl,rfl,by rw [Lib.iterAt_size];exact Nat.le_refl _,fun j _ hj=>Lib.iterAt_other w k j s p (fun e=>hj (by rw [e]))⟩ (by cases h':v.ownBlock with
  | none=>exact .inl rfl
  | some g=>
   refine .inr fun e=>?_
   have:=(h.lt g h').1
   injection e with e
   omega)
theorem heap_alloc_old (w:World) (o:Obj) (k:Nat) (h:k < w.heap.size):(w.alloc o).heap[k]? = w.heap[k]?:=by
 show(w.heap.push o)[k]? = _
 rw [Array.getElem?_push_lt h,Array.getElem?_eq_getElem h]
theorem hasPrefix_any (s p:ByteArray) (w:World):Calls Tryz.prog 123 #[.string s,.string p] w fun e w'=>e=.returned (.bool (Lib.hasPrefix s.data.toList p.data.toList))∧w=w':=
 (Tryz.strings_HasPrefix s p w).mono fun _ _ h=>⟨h.1,h.2.symm⟩
theorem iter_pos {w:World} {k:Nat} {s:ByteArray} {p:Nat} (h:w.heap[k]? = some (.stringIter s p)):w.iterPos k=p:=by unfold World.iterPos;rw [h]
def PtsPost (s:ByteArray) (w:World) (e:Ending) (w':World):Prop:=∃v,e=.returned (.tuple #[v,.int .i64 (textErr s)])∧Below w.heap.size w w'
set_option maxHeartbeats 1000000 in
set_option maxRecDepth 10000 in
theorem points_any (s:ByteArray) (w:World) (hs:s.size≤1000000000):Calls Tryz.prog 72 #[.string s] w (PtsPost s w):=by
 by_cases h:16384 < s.size
 ·have h':(16384:Int) < (s.size:Int):=by omega
  have HX:Box (textErr s=4):=⟨by unfold textErr;rw [if_pos h]⟩
  go_enter Tryz.func72,Tryz.ntmps72
  go_wp2
  go_ret2
  exact⟨_,by rw [HX.out];rfl,Below.refl _ _⟩
 ·have h':¬(16384:Int) < (s.size:Int):=by omega
  have HX:Box (textErr s=if textOK s then 0 else 50):=⟨by unfold textErr;rw [if_neg h]⟩
  go_enter Tryz.func72,Tryz.ntmps72
  go_wp2
  go_loopw [2] (fun v wr=>∃(i:Nat) (l:List Int),i≤s.size∧l.length≤i∧textAt s i=textOK s∧wr.ownsRow (w.heap.size+1) 3 1 v l.length (ints .i64 l)∧wr.heap[w.heap.size]? = some (.stringIter s i)∧Below w.heap.size w wr) (fun _ wr=>s.size - wr.iterPos w.heap.size)
  case atStart=>exact⟨0,[],Nat.zero_le _,Nat.le_refl _,rfl,World.ownsRow_nil _ _ _ _,World.iter_heap w s 0,(Below.refl _ w).alloc (Nat.le_refl _) _⟩
  case round=>
   obtain⟨i,l,hi,hl,ht,hown,hit,hb⟩:=hrel
   obtain⟨A,c,rfl⟩:=own_form hown
   by_cases hp:i < s.size
   ·obtain⟨W1,hW1⟩:∃W1,W1=wr.iterAt w.heap.size s (i+(Utf8.decode s i).2):=⟨_,rfl⟩
    have hnx:=fun ty=>Lib.run_next_any_at (P:=Tryz.prog) wr w.heap.size s i ty hit hp
    rw [←hW1] at hnx
    have ho1:W1.ownsRow (w.heap.size+1) 3 1 (.slice A l.length c) l.length (ints .i64 l):=by rw [hW1];exact own_iter hown (by omega) _ _
    have hb1:Below w.heap.size w W1:=by rw [hW1];exact Lib.below_iterAt hb (Nat.le_refl _) _ _
    have hi1:W1.heap[w.heap.size]? = some (.stringIter s (i+(Utf8.decode s i).2)):=by rw [hW1];exact Lib.iterAt_heap _ _ _ _ _ hit
    have hsz:w.heap.size+1≤W1.heap.size:=(Array.getElem?_eq_some_iff.1 hi1).1
    have HO:=Lib.hid ho1
    have HB:=Lib.hid hb1
    have HI:=Lib.hid hi1
    have hd:=dec_in s i hp
    have hdp:=dec_pos s i
    have hrl:(Utf8.decode s i).1≤1114111:=Lib.rune_le s i
    have hM:=fun W=>may_any ((Utf8.decode s i).1:Int) W (by omega) (by omega)
    have hf:=fffd s i hp
    have ho:okAt s i=(mayP ((Utf8.decode s i).1:Int) && !decide ((Utf8.decode s i).1=65533∧(Utf8.decode s i).2=1)):=rfl
    have hpi:(i:Int)≤(s.size:Int):=by omega
    have HSS:Box (s.extract i s.size=s.extract i s.size):=⟨rfl⟩
    have HP:=Lib.hid (fun W=>hasPrefix_any (s.extract i s.size) ⟨#[239,191,189]⟩ W)
    have hpe:(⟨#[239,191,189]⟩:ByteArray).data.toList=[239,191,189]:=rfl
    rw [hpe] at HP
    have hTY:okAt s i=true→textAt s (i+(Utf8.decode s i).2)=textOK s:=fun h1=>by rw [←ht,textAt_yes s i hp h1]
    have hTN:okAt s i=false→textOK s=false:=fun h1=>by rw [←ht,textAt_no s i hp h1]
    have HTY:=Lib.hid hTY
    have HTN:=Lib.hid hTN
    have HI0:=Lib.hid hit
    clear hW1 hown hb hit ht ho1 hb1 hi1 hTY hTN hpe
    generalize (Utf8.decode s i).1=r at *
    generalize (Utf8.decode s i).2=d at *
    by_cases h65:r=65533
    ·subst h65
     rw [hf rfl] at HP
     have hm:mayP ((65533:Nat):Int)=true:=by decide
     rw [hm] at hM ho
     have HM:=Lib.hid hM
     clear hM hf hm
     by_cases hd1:d=1
     ·subst hd1
      have HT:=Box.mk (HTN.out (by rw [ho];rfl))
      clear ho
      go_wp2_with fail
      refine(HP.out _).mono ?_
      rintro e w1 ⟨rfl,rfl⟩
      go_wp2
      try rw [Exit.noGoto_ret]
      go_ret2
      exact⟨_,by rw [HX.out,HT.out];rfl,HB.out⟩
     ·have HT:=Lib.hid (HTY.out (by rw [ho];simpa using hd1))
      have hdd:decide (d≠1)=true:=by simpa using hd1
      rw [hdd] at HP
      clear ho hdd
      go_wp2_with fail
      refine(HP.out _).mono ?_
      rintro e w1 ⟨rfl,rfl⟩
      go_wp2_with fail
      refine(HM.out _).mono ?_
      rintro e w1 ⟨rfl,rfl⟩
      have ho2:=HO.out
      have hrn:Rd (W1.alloc (.cells #[.int .i64 65533] 3)) (W1.heap.size+1) 1 (some ⟨W1.heap.size,0,none⟩) 1 (ints .i64 [65533]):=rd_int1 W1 _ _ _
      go_wp2_with (at_builtin;refine app_i64s rfl _ _ rfl (w.heap.size+1) _ l.length _ rfl (ho2.alloc _) _ _ _ _ _ rfl hrn (by omega) (by simp;omega) ?_)
      intro v' w2 hown2 hg _
      have X2:Hid (Below w.heap.size w w2):=(HB.out.alloc (by omega) (.cells #[.int .i64 65533] 3)).grown hg (by simp;omega) (fun q hq=>by have:=(HO.out.lt q hq).1;omega)
      have I2:Hid (w2.heap[w.heap.size]? = some (.stringIter s (i+d))):=(hg.block w.heap.size (by simp;omega) (fun e=>by have:=(HO.out.lt _ e.symm).1;omega)).trans ((heap_alloc_old W1 _ _ (by omega)).trans HI.out)
      have HO2:=Lib.hid hown2
      clear hown2 hg ho2 hrn
      go_wp2
      go_roundw
      case rel=>exact⟨i+d,l++[65533],hd,by simp;omega,HT.out,by simpa using HO2.out,I2.out,X2.out⟩
      case measure=>rw [iter_pos I2.out,iter_pos HI0.out];omega
    ·have h65':((r:Int) == 65533)=false:=by rw [beq_eq_false_iff_ne];omega
     have ho':okAt s i=mayP (r:Int):=by rw [ho];simp [h65]
     clear HP hf ho
     cases hm:mayP (r:Int) with
     | false=>
      have HT:=Box.mk (HTN.out (by rw [ho',hm]))
      rw [hm] at hM
      have HM:=Lib.hid hM
      clear hM hm ho'
      go_wp2_with fail
      refine(HM.out _).mono ?_
      rintro e w1 ⟨rfl,rfl⟩
      go_wp2
      try rw [Exit.noGoto_ret]
      go_ret2
      exact⟨_,by rw [HX.out,HT.out];rfl,HB.out⟩
     | true=>
      have HT:=Lib.hid (HTY.out (by rw [ho',hm]))
      rw [hm] at hM
      have HM:=Lib.hid hM
      clear hM hm ho'
      go_wp2_with fail
      refine(HM.out _).mono ?_
      rintro e w1 ⟨rfl,rfl⟩
      have ho2:=HO.out
      have hrn:Rd (W1.alloc (.cells #[.int .i64 (r:Int)] 3)) (W1.heap.size+1) 1 (some ⟨W1.heap.size,0,none⟩) 1 (ints .i64 [(r:Int)]):=rd_int1 W1 _ _ _
      go_wp2_with (at_builtin;refine app_i64s rfl _ _ rfl (w.heap.size+1) _ l.length _ rfl (ho2.alloc _) _ _ _ _ _ rfl hrn (by omega) (by simp;omega) ?_)
      intro v' w2 hown2 hg _
      have X2:Hid (Below w.heap.size w w2):=(HB.out.alloc (by omega) (.cells #[.int .i64 (r:Int)] 3)).grown hg (by simp;omega) (fun q hq=>by have:=(HO.out.lt q hq).1;omega)
      have I2:Hid (w2.heap[w.heap.size]? = some (.stringIter s (i+d))):=(hg.block w.heap.size (by simp;omega) (fun e=>by have:=(HO.out.lt _ e.symm).1;omega)).trans ((heap_alloc_old W1 _ _ (by omega)).trans HI.out)
      have HO2:=Lib.hid hown2
      clear hown2 hg ho2 hrn
      go_wp2
      go_roundw
      case rel=>exact⟨i+d,l++[(r:Int)],hd,by simp;omega,HT.out,by simpa using HO2.out,I2.out,X2.out⟩
      case measure=>rw [iter_pos I2.out,iter_pos HI0.out];omega
   ·obtain rfl:i=s.size:=by omega
    have hnx:=fun ty=>Lib.run_next_end_at (P:=Tryz.prog) wr w.heap.size s s.size ty hit hp
    have HT:Box (textOK s=true):=⟨by rw [←ht,textAt_end s s.size (Nat.le_refl _)]⟩
    have HB:=Lib.hid hb
    clear hown hb hit ht
    go_wp2
    try rw [Exit.noGoto_ret]
    go_ret2
    exact⟨_,by rw [HX.out,HT.out];rfl,HB.out⟩
theorem check5_any (s:ByteArray) (w:World) (hs:s.size≤1000000000):Calls Tryz.prog 30 #[.string s] w fun e w'=>e=.returned (.int .i64 (textErr s))∧Below w.heap.size w w':=by
 have H:=Lib.hid (points_any s w hs)
 go_enter Tryz.func30,Tryz.ntmps30
 go_wp2_with fail
 refine H.out.mono ?_
 rintro e w1 ⟨v,rfl,hb1⟩
 go_wp2
 go_ret
 exact⟨rfl,hb1⟩
end Go.Proofs.YtnfokaecobddkaaGreatDoor
end
section
namespace Go.Proofs.YtnfokaecobddkaaGreatDoor
open Go.RowKit
set_option linter.unusedSimpArgs false
set_option linter.unusedVariables false
theorem or32_all:∀n:Fin 256,decide (97≤bits .or .u8 (n.val:Int) 32∧bits .or .u8 (n.val:Int) 32≤122)=decide ((97≤(n.val:Int)∧(n.val:Int)≤122)∨(65≤(n.val:Int)∧(n.val:Int)≤90)):=by decide +kernel
theorem or32 (c:Int) (h0:0≤c) (h1:c < 256):(97≤bits .or .u8 c 32∧bits .or .u8 c 32≤122)↔((97≤c∧c≤122)∨(65≤c∧c≤90)):=by
 have:=or32_all ⟨c.toNat,by omega⟩
 have e:((c.toNat:Nat):Int)=c:=by omega
 simp only [e] at this
 exact decide_eq_decide.1 this
theorem part_any (c:Int) (first:Bool) (w:World) (h0:0≤c) (h1:c < 256):Calls Tryz.prog 65 #[.int .u8 c,.bool first] w fun e w'=>e=.returned (.bool (partB c first))∧w=w':=by
 have HB:=Box.mk (or32 c h0 h1)
 cases first with
 | false=>
  have HX:Box (partB c false=decide (((97≤c∧c≤122)∨(65≤c∧c≤90)∨c=95)∨((48≤c∧c≤57)∨c=46∨c=45))):=⟨by unfold partB;first|rfl|decide|(rw [Bool.eq_iff_iff];simp only [Bool.and_eq_true,Bool.or_eq_true,Bool.not_eq_true',Bool.not_eq_true,decide_eq_true_eq,decide_eq_false_iff_not,beq_iff_eq,bne_iff_ne,beq_eq_false_iff_ne,bne_eq_false_iff_eq,Bool.false_eq_true,ne_eq,true_and,and_true,false_or,or_false,reduceCtorEq,false_iff,true_iff,iff_false,iff_true];omega)|(simp;done)|(simp;omega)⟩
  generalize partB c false=r at *
  go_enter Tryz.func65,Tryz.ntmps65
  go_wp2
  all_goals
   go_ret
   refine⟨ret_bool ?_,rfl⟩
   have hb:=HB.out
   rw [HX.out]
   generalize bits .or .u8 c 32=d at *
   (first|rfl|decide|(rw [Bool.eq_iff_iff];simp only [Bool.and_eq_true,Bool.or_eq_true,Bool.not_eq_true',Bool.not_eq_true,decide_eq_true_eq,decide_eq_false_iff_not,beq_iff_eq,bne_iff_ne,beq_eq_false_iff_ne,bne_eq_false_iff_eq,Bool.false_eq_true,ne_eq,true_and,and_true,false_or,or_false,reduceCtorEq,false_iff,true_iff,iff_false,iff_true];omega)|(simp;done)|(simp;omega))
 | true=>
  have HX:Box (partB c true=decide ((97≤c∧c≤122)∨(65≤c∧c≤90)∨c=95)):=⟨by simp [partB]⟩
  generalize partB c true=r at *
  go_enter Tryz.func65,Tryz.ntmps65
  go_wp2
  all_goals
   go_ret
   refine⟨ret_bool ?_,rfl⟩
   have hb:=HB.out
   rw [HX.out]
   generalize bits .or .u8 c 32=d at *
   (first|rfl|decide|(rw [Bool.eq_iff_iff];simp only [Bool.and_eq_true,Bool.or_eq_true,Bool.not_eq_true',Bool.not_eq_true,decide_eq_true_eq,decide_eq_false_iff_not,beq_iff_eq,bne_iff_ne,beq_eq_false_iff_ne,bne_eq_false_iff_eq,Bool.false_eq_true,ne_eq,true_and,and_true,false_or,or_false,reduceCtorEq,false_iff,true_iff,iff_false,iff_true];omega)|(simp;done)|(simp;omega))
end Go.Proofs.YtnfokaecobddkaaGreatDoor
end
section
namespace Go.Proofs.YtnfokaecobddkaaGreatDoor
open Go.RowKit
set_option linter.unusedSimpArgs false
set_option linter.unusedVariables false
def low1 (c:Int):Int:=if 65≤c∧c≤90 then c+32 else c
def lowI (s:ByteArray):ByteArray:=strOfNums ((numsOf s).map low1)
def lowK (l:List Int) (k:Nat):List Int:=(l.take k).map low1++l.drop k
theorem lowK_zero (l:List Int):lowK l 0=l:=by simp [lowK]
theorem lowK_len (l:List Int) (k:Nat):(lowK l k).length=l.length:=by simp [lowK];omega
theorem lowK_all (l:List Int):lowK l l.length=l.map low1:=by simp [lowK]
theorem lowK_at {l:List Int} {k:Nat} {x:Int} (h:l[k]? = some x):(lowK l k)[k]? = some x:=by
 have hk:=(List.getElem?_eq_some_iff.1 h).1
 unfold lowK
 rw [List.getElem?_append_right (by simp;omega)]
 simp [Nat.min_eq_left (Nat.le_of_lt hk),h]
theorem lowK_succ {l:List Int} {k:Nat} {x:Int} (h:l[k]? = some x):lowK l (k+1)=(lowK l k).set k (low1 x):=by
 have hk:=(List.getElem?_eq_some_iff.1 h).1
 unfold lowK
 rw [List.set_append_right _ _ (by simp;omega),List.take_add_one,h]
 have e:l.drop k=x :: l.drop (k+1):=by
  rw [List.drop_eq_getElem_cons hk]
  congr 1
  exact(List.getElem?_eq_some_iff.1 h).2
 rw [e]
 simp [Nat.min_eq_left (Nat.le_of_lt hk)]
theorem list_set_self {α:Type} {l:List α} {i:Nat} {x:α} (h:l[i]? = some x):l.set i x=l:=by
 apply List.ext_getElem?
 intro j
 by_cases hj:i=j
 ·subst hj
  rw [List.getElem?_set_self (List.getElem?_eq_some_iff.1 h).1,h]
 ·rw [List.getElem?_set_ne hj]
theorem low1_b8 {l:List Int} (h:B8 l):B8 (l.map low1):=by
 intro x hx
 obtain⟨c,hc,rfl⟩:=List.mem_map.1 hx
 have:=h c hc
 unfold low1
 split <;> omega
theorem lowI_size (s:ByteArray):(lowI s).size=s.size:=by
 unfold lowI
 have h:=numsOf_length (strOfNums ((numsOf s).map low1))
 rw [numsOf_str (low1_b8 (numsOf_b8 s)),List.length_map,numsOf_length] at h
 exact h.symm
theorem or32b_all:∀n:Fin 256,decide (65≤n.val∧n.val≤90)=true→bits .or .u8 (n.val:Int) 32=(n.val:Int)+32:=by decide +kernel
theorem or32b (c:Int) (h0:65≤c) (h1:c≤90):bits .or .u8 c 32=c+32:=by
 have:=or32b_all ⟨c.toNat,by omega⟩ (decide_eq_true (by show 65≤c.toNat∧c.toNat≤90;omega))
 have e:((c.toNat:Nat):Int)=c:=by omega
 simpa only [e] using this
def RowB (w:World) (g:Nat) (xs:List Int):Prop:=∃cur t f,w.heap[g]? = some (.cells cur t f)∧cur.size≤f.1∧xs.length≤cur.size∧∀(i:Nat) (x:Int),xs[i]? = some x→cur[i]? = some (.int .u8 x)
theorem RowB.cell {w:World} {g i:Nat} {xs:List Int} {x:Int} (h:RowB w g xs) (hx:xs[i]? = some x):w.cell? ⟨g,i,none⟩=some (.int .u8 x):=by
 obtain⟨cur,t,f,h1,h2,h3,h4⟩:=h
 simp [World.cell?,h1,h4 i x hx]
theorem RowB.frozen {w:World} {g i:Nat} {xs:List Int} (h:RowB w g xs) (hi:i < xs.length):w.frozen? ⟨g,i,none⟩=false:=by
 obtain⟨cur,t,⟨f1,f2⟩,h1,h2,h3,h4⟩:=h
 simp only [] at h2
 simp [World.frozen?,h1]
 omega
theorem RowB.set {w:World} {g i:Nat} {xs:List Int} (h:RowB w g xs) (hi:i < xs.length) (y:Int):RowB (w.setCell ⟨g,i,none⟩ (.int .u8 y)) g (xs.set i y):=by
 obtain⟨cur,t,f,h1,h2,h3,h4⟩:=h
 have hs:(w.setCell ⟨g,i,none⟩ (.int .u8 y)).heap[g]? = some (.cells (cur.setIfInBounds i (.int .u8 y)) t f):=by
  simp [World.setCell,Array.getElem?_modify,h1]
 refine⟨_,t,f,hs,by simpa using h2,by simpa using h3,fun k x hk=>?_⟩
 by_cases e:i=k
 ·subst e
  rw [List.getElem?_set_self hi] at hk
  simp only [Option.some.injEq] at hk
  subst hk
  rw [Array.getElem?_setIfInBounds_self_of_lt (by omega)]
 ·rw [List.getElem?_set_ne e] at hk
  rw [Array.getElem?_setIfInBounds_ne (by omega)]
  exact h4 k x hk
theorem RowB.conv {w:World} {g c:Nat} {xs:List Int} (h:RowB w g xs):(convert 226 9 (.slice (some ⟨g,0,none⟩) xs.length c)).run Tryz.prog w=.ok (.string (strOfNums xs)) w:=
 run_convert_bytes_arg w _ _ Tryz.underlying226 Tryz.underlying5 g 0 _ c xs rfl (fun i hi=>by
  rw [Nat.zero_add]
  rw [h.cell (List.getElem?_eq_getElem hi),List.getD_eq_getElem?_getD,List.getElem?_eq_getElem hi]
  rfl) _ Tryz.underlying9
theorem row_of_string (w:World) (s:ByteArray):∃c w',(convert 9 226 (.string s)).run Tryz.prog w=.ok (.slice (some ⟨w.heap.size,0,none⟩) s.size c) w'∧RowB w' w.heap.size (numsOf s)∧Below w.heap.size w w':=by
 have h:=run_bytes_of_string (P:=Tryz.prog) w 9 226 5 s Tryz.underlying9 Tryz.underlying226 Tryz.underlying5
 generalize grownCap w s.size 0 5=cp at h
 refine⟨_,_,h,⟨bytesRow s cp,5,((bytesRow s cp).size,(bytesRow s cp).size+1),?_,Nat.le_refl _,?_,?_⟩,(Below.refl _ _).drew.alloc (Nat.le_refl _) _⟩
 ·show(w.heap.push _)[w.heap.size]? = _
  simp
 ·rw [numsOf_length]
  simp [bytesRow]
 ·intro i x hx
  have hi:=(List.getElem?_eq_some_iff.1 hx).1
  rw [numsOf_length] at hi
  have hi':i < s.data.size:=hi
  rw [bytesRow_at s _ i hi']
  rw [numsOf_get s i hi] at hx
  simp only [Option.some.injEq] at hx
  rw [←hx]
  rfl
set_option maxHeartbeats 1000000 in
set_option maxRecDepth 10000 in
theorem lower9_any (s:ByteArray) (w:World) (hs:s.size≤9223372036854775807):Calls Tryz.prog 127 #[.string s] w fun e w'=>e=.returned (.string (lowI s))∧Below w.heap.size w w':=by
 obtain⟨c,w1,hconv,hrow,hb⟩:=row_of_string w s
 have HROW:=Lib.hid hrow
 have HB0:=Lib.hid hb
 have HX:Box (lowI s=strOfNums ((numsOf s).map low1)):=⟨rfl⟩
 have HN:=Lib.hid (numsOf_length s)
 have HB8:=Lib.hid (numsOf_b8 s)
 clear hrow hb
 generalize lowI s=r at *
 go_enter Tryz.func127,Tryz.ntmps127
 go_wp2
 go_loopw [4,5,10] (fun _ _ s10 wr=>∃k:Nat,k≤s.size∧s10=.int .i64 k∧Hid (RowB wr w.heap.size (lowK (numsOf s) k))∧Hid (Below w.heap.size w wr)) (fun _ _ s10 _=>s.size - (intOf s10).toNat)
 case atStart=>exact⟨0,Nat.zero_le _,rfl,by rw [lowK_zero];exact HROW,HB0⟩
 case round=>
  obtain⟨k,hk,rfl,HR,HB⟩:=hrel
  by_cases hlt:k < s.size
  ·obtain⟨x,hx⟩:∃x,(numsOf s)[k]? = some x:=⟨_,List.getElem?_eq_getElem (by rw [HN.out];exact hlt)⟩
   have d0:=HR.out.cell (lowK_at hx)
   have hx8:=HB8.out x (List.mem_of_getElem? hx)
   obtain⟨hx0,hx1⟩:=hx8
   have f0:=HR.out.frozen (i:=k) (by rw [lowK_len,HN.out];exact hlt)
   have HSU:=Lib.hid (lowK_succ hx)
   have HSELF:Hid ((lowK (numsOf s) k).set k x=lowK (numsOf s) k):=list_set_self (lowK_at hx)
   clear hx
   by_cases hup:65≤x∧x≤90
   ·obtain⟨hu1,hu2⟩:=hup
    have hor:=or32b x hu1 hu2
    have HL:Box (low1 x=x+32):=⟨if_pos ⟨hu1,hu2⟩⟩
    have HSET:Hid (RowB (wr.setCell ⟨w.heap.size,k,none⟩ (.int .u8 (x+32))) w.heap.size (lowK (numsOf s) (k+1))):=by rw [HSU.out,HL.out];exact HR.out.set (by rw [lowK_len,HN.out];exact hlt) _
    have HB2:Hid (Below w.heap.size w (wr.setCell ⟨w.heap.size,k,none⟩ (.int .u8 (x+32)))):=HB.out.setCell (p:=⟨w.heap.size,k,none⟩) (Nat.le_refl _) _
    go_wp2
    go_roundw
    case rel=>exact⟨k+1,by omega,by go_num,HSET,HB2⟩
    case measure=>simp [intOf];omega
   ·have HL:Box (low1 x=x):=⟨if_neg hup⟩
    have HSET:Hid (RowB wr w.heap.size (lowK (numsOf s) (k+1))):=by
     rw [HSU.out,HL.out,HSELF.out]
     exact HR
    have hcase:x < 65∨90 < x:=by omega
    clear hup
    rcases hcase with hc|hc
    all_goals
     go_wp2
     go_roundw
     case rel=>exact⟨k+1,by omega,by go_num,HSET,HB⟩
     case measure=>simp [intOf];omega
  ·obtain rfl:k=s.size:=by omega
   have hcv:=HR.out.conv (c:=c)
   rw [lowK_len,HN.out] at hcv
   have HE:Box (strOfNums (lowK (numsOf s) s.size)=r):=⟨by rw [HX.out,←HN.out,lowK_all]⟩
   rw [HE.out] at hcv
   go_wp2
   go_ret
   exact⟨rfl,HB.out⟩
end Go.Proofs.YtnfokaecobddkaaGreatDoor
end
section
namespace Go.Proofs.YtnfokaecobddkaaGreatDoor
open Go.RowKit
set_option linter.unusedSimpArgs false
set_option linter.unusedVariables false
set_option maxHeartbeats 1000000 in
set_option maxRecDepth 10000 in
theorem name_any (s:ByteArray) (w:World) (hs:s.size≤1000000000):Calls Tryz.prog 26 #[.string s] w fun e w'=>e=.returned (.bool (nameI s))∧w=w':=by
 rcases Nat.eq_zero_or_pos s.size with h0|h0
 ·have he:=str_em s h0
  have HX:Box (nameI s=false):=⟨by rw [nameI_all,h0];rfl⟩
  have hl:(s.size:Int)=0:=by omega
  generalize nameI s=r at *
  go_enter Tryz.func26,Tryz.ntmps26
  go_wp2
  go_step3
  go_wp2
  go_step3
  go_wp2
  go_loop [3,9] (fun b i=>b=.bool false∧i=.int .i64 0) (fun _ i=>0)
  case atStart=>exact⟨rfl,rfl⟩
  case round=>
   obtain⟨rfl,rfl⟩:=hrel
   go_wp2
   go_ret
   exact⟨ret_bool HX.out.symm,rfl⟩
 ·have hne:=str_ne s h0
  have HX:Box (nameI s=nameT s s.size):=⟨by rw [nameI_all,decide_eq_true h0];rfl⟩
  go_enter Tryz.func26,Tryz.ntmps26
  go_wp2
  go_step3
  go_wp2
  go_step3
  go_wp2
  go_loop [3,9] (fun b i=>∃k:Nat,k≤s.size∧b=.bool (nameT s k)∧nameT s k=true∧i=.int .i64 k) (fun _ i=>s.size - (intOf i).toNat)
  case atStart=>exact⟨0,Nat.zero_le _,rfl,rfl,rfl⟩
  case round=>
   obtain⟨k,hk,rfl,ht,rfl⟩:=hrel
   rw [ht]
   by_cases hlt:k < s.size
   ·have HS:Box (nameT s (k+1)=partB (b_at s k:Int) (decide (k=0))):=⟨by rw [nameT_succ,ht,nums_at s k hlt];rfl⟩
    have HNO:=Lib.hid (nameT_no s (k+1) s.size hlt)
    have hxl:b_at s k < 256:=b_lt s k
    have hx:=at_eq s k hlt
    have HP:=Lib.hid (fun W=>part_any (b_at s k:Int) (decide (k=0)) W (by omega) (by omega))
    clear ht
    generalize b_at s k=x at *
    by_cases hk0:k=0
    ·subst hk0
     rw [decide_eq_true (rfl:(0:Nat)=0)] at HS HP
     generalize hq:partB (x:Int) true=q at *
     clear hq
     cases q with
     | false=>
      go_wp2_with fail
      refine(HP.out _).mono ?_
      rintro e w1 ⟨rfl,rfl⟩
      go_wp2
      try rw [Exit.noGoto_ret]
      go_ret
      exact⟨ret_bool (by rw [HX.out,HNO.out HS.out]),rfl⟩
     | true=>
      go_wp2_with fail
      refine(HP.out _).mono ?_
      rintro e w1 ⟨rfl,rfl⟩
      go_wp2
      go_round
      case rel=>exact⟨0+1,by omega,by rw [HS.out],HS.out,by go_num⟩
      case measure=>simp [intOf];omega
    ·rw [decide_eq_false hk0] at HS HP
     have hk1:((k:Int) == 0)=false:=by rw [beq_eq_false_iff_ne];omega
     generalize hq:partB (x:Int) false=q at *
     clear hq hk0
     cases q with
     | false=>
      go_wp2_with fail
      refine(HP.out _).mono ?_
      rintro e w1 ⟨rfl,rfl⟩
      go_wp2
      try rw [Exit.noGoto_ret]
      go_ret
      exact⟨ret_bool (by rw [HX.out,HNO.out HS.out]),rfl⟩
     | true=>
      go_wp2_with fail
      refine(HP.out _).mono ?_
      rintro e w1 ⟨rfl,rfl⟩
      go_wp2
      go_round
      case rel=>exact⟨k+1,by omega,by rw [HS.out],HS.out,by go_num⟩
      case measure=>simp [intOf];omega
   ·obtain rfl:k=s.size:=by omega
    have HT:=Box.mk ht
    clear ht
    go_wp2
    try rw [Exit.noGoto_ret]
    go_ret
    exact⟨ret_bool (by rw [HX.out,HT.out]),rfl⟩
end Go.Proofs.YtnfokaecobddkaaGreatDoor
end
section
namespace Go.Proofs.YtnfokaecobddkaaGreatDoor
open Go.RowKit
set_option linter.unusedSimpArgs false
set_option linter.unusedVariables false
end Go.Proofs.YtnfokaecobddkaaGreatDoor
end
section
namespace Go.Proofs.YtnfokaecobddkaaGreatDoor
open Go.RowKit
set_option linter.unusedSimpArgs false
set_option linter.unusedVariables false
theorem idx_none (s:ByteArray) (c:UInt8) (h:fstL (numsOf s) (c.toNat:Int)=none):Lib.indexByte s.data.toList c=-1:=by
 by_cases hm:∃o:Nat,Lib.indexByte s.data.toList c=o
 ·obtain⟨o,ho⟩:=hm
  have h1:=(Lib.indexByte_some ho).1
  exact absurd rfl (fstL_none h o (c.toNat:Int) (by unfold numsOf;rw [List.getElem?_map,h1];rfl))
 ·have:=Lib.indexByte_ge s.data.toList c
  rcases (by omega:Lib.indexByte s.data.toList c=-1∨0≤Lib.indexByte s.data.toList c) with h1|h1
  ·exact h1
  ·exact absurd ⟨(Lib.indexByte s.data.toList c).toNat,by omega⟩ hm
theorem idx_some (s:ByteArray) (c:UInt8) (i:Nat) (h:fstL (numsOf s) (c.toNat:Int)=some i):Lib.indexByte s.data.toList c=(i:Int)∧i < s.size:=by
 obtain⟨h1,h2⟩:=fstL_some h
 have hlt:i < s.size:=by rw [←numsOf_length];exact(List.getElem?_eq_some_iff.1 h1).1
 refine⟨?_,hlt⟩
 have get:∀k:Nat,s.data.toList[k]? = some c→(numsOf s)[k]? = some (c.toNat:Int):=fun k hk=>by unfold numsOf;rw [List.getElem?_map,hk];rfl
 have back:s.data.toList[i]? = some c:=by
  unfold numsOf at h1
  rw [List.getElem?_map,Option.map_eq_some_iff] at h1
  obtain⟨b,hb,e⟩:=h1
  rw [hb]
  congr 1
  exact UInt8.toNat_inj.1 (by omega)
 have hge:=Lib.indexByte_ge s.data.toList c
 have hcase:Lib.indexByte s.data.toList c=-1∨∃o:Nat,Lib.indexByte s.data.toList c=o:=by
  by_cases h0:Lib.indexByte s.data.toList c=-1
  ·exact .inl h0
  ·exact .inr ⟨(Lib.indexByte s.data.toList c).toNat,by omega⟩
 rcases hcase with h3|⟨o,ho⟩
 ·exact absurd back (Lib.indexByte_none h3 i)
 ·obtain⟨g1,g2⟩:=Lib.indexByte_some ho
  rcases Nat.lt_trichotomy o i with h4|h4|h4
  ·exact absurd rfl (h2 o _ h4 (get o g1))
  ·rw [ho,h4]
  ·exact absurd back (g2 i h4)
def cutI (s:ByteArray) (c:Int):ByteArray×ByteArray×Bool:=match fstL (numsOf s) c with
 | none=>(s,⟨#[]⟩,false)
 | some i=>(s.extract 0 i,s.extract (i+1) s.size,true)
def CutPost (s:ByteArray) (c:Int) (w:World) (e:Ending) (w':World):Prop:=e=.returned (.tuple #[.string (cutI s c).1,.string (cutI s c).2.1,.bool (cutI s c).2.2])∧Below w.heap.size w w'
set_option maxHeartbeats 1000000 in
set_option maxRecDepth 10000 in
theorem cut9_any (s:ByteArray) (c:UInt8) (w:World) (hs:s.size≤9223372036854775807):Calls Tryz.prog 176 #[.string s,.string ⟨#[c]⟩] w (CutPost s (c.toNat:Int) w):=by
 have HI:=Lib.hid (fun W=>(Tryz.stringslite_Index_one s c W).mono fun e w' h=>(⟨h.1,h.2.symm⟩:e=_∧W=w'))
 cases hf:fstL (numsOf s) (c.toNat:Int) with
 | none=>
  have HC:Box (cutI s (c.toNat:Int)=(s,⟨#[]⟩,false)):=⟨by unfold cutI;rw [hf]⟩
  rw [idx_none s c hf] at HI
  clear hf
  go_enter Tryz.func176,Tryz.ntmps176
  go_wp2_with fail
  refine(HI.out _).mono ?_
  rintro e w1 ⟨rfl,rfl⟩
  go_wp2
  go_ret3
  exact⟨by rw [HC.out];rfl,Below.refl _ _⟩
 | some i=>
  obtain⟨h1,h2⟩:=idx_some s c i hf
  have HC:Box (cutI s (c.toNat:Int)=(s.extract 0 i,s.extract (i+1) s.size,true)):=⟨by unfold cutI;rw [hf]⟩
  rw [h1] at HI
  have hz:(⟨#[c]⟩:ByteArray).size=1:=rfl
  have hii:(i:Int)≤(s.size:Int):=by omega
  have hi1:(i:Int)+1≤(s.size:Int):=by omega
  have hf1:∀W,(Instr.slice 9 (.string s) none (some (.int .i64 (i:Int))) none).run Tryz.prog W=.ok (.string (s.extract 0 i)) W:=fun W=>
   run_slice_string_h (P:=Tryz.prog) (w:=W) (t:=9) (s:=s) Tryz.underlying9 .i64 (i:Int) (by omega) (by omega)
  have hf2:∀W,(Instr.slice 9 (.string s) (some (.int .i64 ((i:Int)+1))) none none).run Tryz.prog W=.ok (.string (s.extract (i+1) s.size)) W:=fun W=>by
   have h1:=run_slice_string_l (P:=Tryz.prog) (w:=W) (t:=9) (s:=s) Tryz.underlying9 .i64 ((i:Int)+1) (by omega) (by omega)
   rwa [show((i:Int)+1).toNat=i+1 by omega] at h1
  clear hf h1
  go_enter Tryz.func176,Tryz.ntmps176
  go_wp2_with fail
  refine(HI.out _).mono ?_
  rintro e w1 ⟨rfl,rfl⟩
  go_wp2_with fail
  refine wp_region_typed rfl (by kernel_rfl) (by kernel_rfl) ?_
  repeat (first|refine tw_skip (wd_no rfl rfl rfl) ?_|refine tw_mv (.inl rfl) rfl (wdA rfl) ?_|refine tw_mv (.inr rfl) rfl (wdA rfl) ?_|refine tw_pickL rfl rfl rfl (wdA rfl) ?_|refine tw_op1 _ rfl rfl (wdA rfl) (fun ρ W hW h1=>by simp only [execOp,h1];go_simp;first|done|rfl) ?_|refine tw_op2 _ rfl rfl rfl (wdA rfl) (fun ρ W hW h1 h2=>by simp only [execOp,h1,h2];go_simp;first|done|rfl) ?_)
  refine tw_op2 (x:=.tmp 13) (y:=.tmp 14) (c:=.string s) (e:=.int .i64 (i:Int)) (.string (s.extract 0 i)) rfl rfl rfl (wdA rfl) (fun ρ W hW h1 h2=>by simp only [execOp,h1,h2,Option.map];go_simp) ?_
  repeat (first|refine tw_skip (wd_no rfl rfl rfl) ?_|refine tw_mv (.inl rfl) rfl (wdA rfl) ?_|refine tw_mv (.inr rfl) rfl (wdA rfl) ?_|refine tw_pickL rfl rfl rfl (wdA rfl) ?_|refine tw_op1 _ rfl rfl (wdA rfl) (fun ρ W hW h1=>by simp only [execOp,h1];go_simp;first|done|rfl) ?_|refine tw_op2 _ rfl rfl rfl (wdA rfl) (fun ρ W hW h1 h2=>by simp only [execOp,h1,h2];go_simp;first|done|rfl) ?_)
  refine tw_lens (s:=⟨#[c]⟩) rfl rfl (wdA rfl) ?_
  refine tw_op2 (x:=.tmp 17) (y:=.tmp 19) (c:=.int .i64 (i:Int)) (e:=.int .i64 1) (.int .i64 ((i:Int)+1)) rfl rfl rfl (wdA rfl) (fun ρ W hW h1 h2=>by simp only [execOp,h1,h2];go_simp;rw [IntKind.wrap_i64];omega) ?_
  refine tw_op2 (x:=.tmp 16) (y:=.tmp 20) (c:=.string s) (e:=.int .i64 ((i:Int)+1)) (.string (s.extract (i+1) s.size)) rfl rfl rfl (wdA rfl) (fun ρ W hW h1 h2=>by simp only [execOp,h1,h2,Option.map];go_simp) ?_
  repeat (first|refine tw_skip (wd_no rfl rfl rfl) ?_|refine tw_mv (.inl rfl) rfl (wdA rfl) ?_|refine tw_mv (.inr rfl) rfl (wdA rfl) ?_|refine tw_pickL rfl rfl rfl (wdA rfl) ?_|refine tw_op1 _ rfl rfl (wdA rfl) (fun ρ W hW h1=>by simp only [execOp,h1];go_simp;first|done|rfl) ?_|refine tw_op2 _ rfl rfl rfl (wdA rfl) (fun ρ W hW h1 h2=>by simp only [execOp,h1,h2];go_simp;first|done|rfl) ?_)
  dsimp only [wpT,List.reverse,List.reverseAux,FinT]
  intro W hW _
  simp only [Act.put,List.setIfInBounds_toArray,List.set_cons_zero,List.set_cons_succ]
  have XW:=Lib.hid ((Below.refl w.heap.size w).drew.trans (Below.mono hW (Nat.le_refl _)))
  clear hW
  go_wp2
  go_ret3
  exact⟨by rw [HC.out];rfl,XW.out⟩
end Go.Proofs.YtnfokaecobddkaaGreatDoor
end
section
namespace Go.Proofs.YtnfokaecobddkaaGreatDoor
def emB:ByteArray:=⟨#[]⟩
def textJ (j:JidL):ByteArray:=(if isEmp j.loc then j.dom else j.loc++(⟨#[64]⟩:ByteArray)++j.dom)++(if isEmp j.res then emB else(⟨#[47]⟩:ByteArray)++j.res)
def readJ (s:ByteArray):JidL:=
 if (cutI (lowI (cutI s 47).1) 64).2.2 then⟨(cutI (lowI (cutI s 47).1) 64).1,(cutI (lowI (cutI s 47).1) 64).2.1,(cutI s 47).2.1⟩ else⟨emB,lowI (cutI s 47).1,(cutI s 47).2.1⟩
def hasL (s:ByteArray):Bool:=(cutI (lowI (cutI s 47).1) 64).2.2
def hasR (s:ByteArray):Bool:=(cutI s 47).2.2
def parseI (s:ByteArray):Option JidL:=
 if (hasL s && isEmp (readJ s).loc || hasR s && isEmp (readJ s).res || !jidI (readJ s)) then none else some (readJ s)
theorem data_app (a b:ByteArray):(a++b).data.toList=a.data.toList++b.data.toList:=by simp
theorem ba_ext {a b:ByteArray} (h:a.data.toList=b.data.toList):a=b:=by
 cases a;cases b
 simp only [Array.toList_inj] at h
 rw [h]
theorem app_size (a b:ByteArray):(a++b).size=a.size+b.size:=by simp
theorem app_em (a:ByteArray):a++emB=a:=by apply ba_ext;simp [emB]
end Go.Proofs.YtnfokaecobddkaaGreatDoor
end
section
namespace Go.Proofs.YtnfokaecobddkaaGreatDoor
structure StL where
 kind:Int
 typ:ByteArray
 id:ByteArray
 frm:ByteArray
 to:ByteArray
 load:List (List NodeL)
def isAttr (name:ByteArray) (a:AttrL):Bool:=a.space.toList.isEmpty && (a.name.toList == name.toList)
def valAt (l:List AttrL) (o:Option Nat):ByteArray:=match o with
 | some i=>match l[i]? with
  | some a=>a.value
  | none=>emB
 | none=>emB
def findI (n:NodeL) (name:ByteArray):ByteArray:=valAt n.attrs (fstP (isAttr name) n.attrs)
def blankL:List UInt8:=[32,9,10,13]
def blankI (s:ByteArray):Bool:=setAll blankL s
def nodeAt (v:List NodeL) (k:Nat):NodeL:=v.getD k default
def elemsK (v:List NodeL) (l:List Nat):List (List NodeL):=(l.filter fun k=>decide ((nodeAt v k).kind=1)).map (partI v)
def blanksK (v:List NodeL) (l:List Nat):Bool:=l.all fun k=>decide ((nodeAt v k).kind=1) || blankI (nodeAt v k).text
def elemsI (v:List NodeL):List (List NodeL):=elemsK v (kidsI v 0)
def blanksI (v:List NodeL):Bool:=blanksK v (kidsI v 0)
theorem elemsK_succ (v:List NodeL) (l:List Nat) (k:Nat):elemsK v (l++[k])=if (nodeAt v k).kind=1 then elemsK v l++[partI v k] else elemsK v l:=by
 unfold elemsK
 rw [List.filter_append,List.map_append]
 by_cases h:(nodeAt v k).kind=1 <;> simp [h]
theorem blanksK_succ (v:List NodeL) (l:List Nat) (k:Nat):blanksK v (l++[k])=(blanksK v l && (decide ((nodeAt v k).kind=1) || blankI (nodeAt v k).text)):=by
 unfold blanksK
 rw [List.all_append]
 simp
def msgTypes:List ByteArray:=[(⟨#[]⟩:ByteArray),(⟨#[99,104,97,116]⟩:ByteArray),(⟨#[101,114,114,111,114]⟩:ByteArray),(⟨#[103,114,111,117,112,99,104,97,116]⟩:ByteArray),(⟨#[104,101,97,100,108,105,110,101]⟩:ByteArray),(⟨#[110,111,114,109,97,108]⟩:ByteArray)]
def preTypes:List ByteArray:=[(⟨#[]⟩:ByteArray),(⟨#[117,110,97,118,97,105,108,97,98,108,101]⟩:ByteArray),(⟨#[115,117,98,115,99,114,105,98,101]⟩:ByteArray),(⟨#[115,117,98,115,99,114,105,98,101,100]⟩:ByteArray),(⟨#[117,110,115,117,98,115,99,114,105,98,101]⟩:ByteArray),(⟨#[117,110,115,117,98,115,99,114,105,98,101,100]⟩:ByteArray),(⟨#[112,114,111,98,101]⟩:ByteArray),(⟨#[101,114,114,111,114]⟩:ByteArray)]
def iqTypes:List ByteArray:=[(⟨#[103,101,116]⟩:ByteArray),(⟨#[115,101,116]⟩:ByteArray),(⟨#[114,101,115,117,108,116]⟩:ByteArray),(⟨#[101,114,114,111,114]⟩:ByteArray)]
def typesOf (k:Int):List ByteArray:=if k=1 then msgTypes else if k=2 then preTypes else if k=3 then iqTypes else []
def hasS (l:List ByteArray) (s:ByteArray):Bool:=l.any fun x=>x.toList == s.toList
def typedI (k:Int) (s:ByteArray):Bool:=hasS (typesOf k) s
end Go.Proofs.YtnfokaecobddkaaGreatDoor
end
section
namespace Go.Proofs.YtnfokaecobddkaaGreatDoor
open Go.RowKit Go.ChangeShapes Go.WideShapes Go.Deep
def AtAt (w:World) (b o:Nat) (a:AttrL):Prop:=w.cell? ⟨b,o,none⟩=some (.string a.space)∧w.cell? ⟨b,o+1,none⟩=some (.string a.name)∧w.cell? ⟨b,o+2,none⟩=some (.string a.value)
def RdA (w:World) (B:Nat) (A:Option Addr) (l:List AttrL):Prop:=0 < l.length→∃b off,A=some ⟨b,off,none⟩∧b < B∧∀i a,l[i]? = some a→AtAt w b (off+i*3) a
def NdAt (w:World) (B b o:Nat) (n:NodeL):Prop:=
 w.cell? ⟨b,o,none⟩=some (.int .u8 n.kind)∧w.cell? ⟨b,o+1,none⟩=some (.string n.space)∧w.cell? ⟨b,o+2,none⟩=some (.string n.name)∧
 (∃A c,w.cell? ⟨b,o+3,none⟩=some (.slice A n.attrs.length c)∧n.attrs.length≤c∧RdA w B A n.attrs)∧w.cell? ⟨b,o+4,none⟩=some (.string n.text)∧w.cell? ⟨b,o+5,none⟩=some (.int .i64 n.many)
def RdV (w:World) (B:Nat) (A:Option Addr) (v:List NodeL):Prop:=0 < v.length→∃b off,A=some ⟨b,off,none⟩∧b < B∧∀i n,v[i]? = some n→NdAt w B b (off+i*6) n
section
variable {w w':World} {B B':Nat} {A:Option Addr}
theorem AtAt.keep {b o:Nat} {a:AttrL} (h:AtAt w b o a) (hb:b < B) (hk:∀p:Addr,p.block < B→w'.cell? p=w.cell? p):AtAt w' b o a:=
 ⟨(hk _ hb).trans h.1,(hk _ hb).trans h.2.1,(hk _ hb).trans h.2.2⟩
theorem RdA.keep {l:List AttrL} (h:RdA w B A l) (hk:∀p:Addr,p.block < B→w'.cell? p=w.cell? p):RdA w' B A l:=fun h0=>by
 obtain⟨b,off,e,hb,hc⟩:=h h0
 exact⟨b,off,e,hb,fun i a hi=>(hc i a hi).keep hb hk⟩
theorem RdA.more {l:List AttrL} (h:RdA w B A l) (hB:B≤B'):RdA w B' A l:=fun h0=>by
 obtain⟨b,off,e,hb,hc⟩:=h h0
 exact⟨b,off,e,by omega,hc⟩
theorem RdA.below {C:Nat} {l:List AttrL} (h:RdA w B A l) (hb:Below C w w') (hC:B≤C):RdA w' B A l:=h.keep fun _ hp=>hb.cell (by omega)
theorem NdAt.keep {b o:Nat} {n:NodeL} (h:NdAt w B b o n) (hb:b < B) (hk:∀p:Addr,p.block < B→w'.cell? p=w.cell? p):NdAt w' B b o n:=by
 obtain⟨h0,h1,h2,⟨A,c,h3,hl,hA⟩,h4,h5⟩:=h
 exact⟨(hk _ hb).trans h0,(hk _ hb).trans h1,(hk _ hb).trans h2,⟨A,c,(hk _ hb).trans h3,hl,hA.keep hk⟩,(hk _ hb).trans h4,(hk _ hb).trans h5⟩
theorem NdAt.more {b o:Nat} {n:NodeL} (h:NdAt w B b o n) (hB:B≤B'):NdAt w B' b o n:=by
 obtain⟨h0,h1,h2,⟨A,c,h3,hl,hA⟩,h4,h5⟩:=h
 exact⟨h0,h1,h2,⟨A,c,h3,hl,hA.more hB⟩,h4,h5⟩
theorem RdV.keep {v:List NodeL} (h:RdV w B A v) (hk:∀p:Addr,p.block < B→w'.cell? p=w.cell? p):RdV w' B A v:=fun h0=>by
 obtain⟨b,off,e,hb,hc⟩:=h h0
 exact⟨b,off,e,hb,fun i n hi=>(hc i n hi).keep hb hk⟩
theorem RdV.more {v:List NodeL} (h:RdV w B A v) (hB:B≤B'):RdV w B' A v:=fun h0=>by
 obtain⟨b,off,e,hb,hc⟩:=h h0
 exact⟨b,off,e,by omega,fun i n hi=>(hc i n hi).more hB⟩
theorem RdV.below {C:Nat} {v:List NodeL} (h:RdV w B A v) (hb:Below C w w') (hC:B≤C):RdV w' B A v:=h.keep fun _ hp=>hb.cell (by omega)
end
def SzA (M:Nat) (a:AttrL):Prop:=a.space.size≤M∧a.name.size≤M∧a.value.size≤M
def SzN (M:Nat) (n:NodeL):Prop:=(0≤n.kind∧n.kind < 256)∧n.space.size≤M∧n.name.size≤M∧(n.attrs.length≤M∧∀a∈n.attrs,SzA M a)∧n.text.size≤M∧(-9223372036854775808≤n.many∧n.many≤9223372036854775807)
def SzV (M:Nat) (v:List NodeL):Prop:=v.length≤M∧∀n∈v,SzN M n
theorem list_of {α:Type} {P:Nat→α→Prop}:∀n:Nat,(∀i,i < n→∃x,P i x)→∃l:List α,l.length=n∧∀i x,l[i]? = some x→P i x
 | 0,_=>⟨[],rfl,by simp⟩
 | n+1,h=>by
  obtain⟨l,hl,hp⟩:=list_of n fun i hi=>h i (by omega)
  obtain⟨x,hx⟩:=h n (by omega)
  refine⟨l++[x],by simp [hl],fun i y hi=>?_⟩
  rcases Nat.lt_or_ge i l.length with h1|h1
  ·rw [List.getElem?_append_left h1] at hi
   exact hp i y hi
  ·rw [List.getElem?_append_right h1] at hi
   rcases Nat.eq_zero_or_pos (i - l.length) with h0|h0
   ·rw [h0] at hi
    simp only [List.getElem?_cons_zero,Option.some.injEq] at hi
    subst hi
    obtain rfl:i=n:=by omega
    exact hx
   ·rw [List.getElem?_eq_none (by simp;omega)] at hi
    cases hi
theorem addr_of {W:World} {a:Addr} {v:Value} (h:W.cell? (a.add 0)=some v):∃b off,a=⟨b,off,none⟩∧b < W.heap.size:=by
 have hb:=World.block_lt_of_cell? W _ h
 rw [block_of_add] at hb
 obtain⟨b,off,spot⟩:=a
 have hspot:spot=none:=by
  simpa [Addr.add] using World.cell?_spot h
 subst hspot
 exact⟨b,off,rfl,hb⟩
section
variable {H:Type} {enc:TypeId×Value→H} {W:World} {base:Nat} {spare:Nat→Bool} {held:Bool}
end
theorem ext_step {B:Nat} {a b c d:World} (h:Below B a b) (k:Below b.heap.size b c) (m:Below c.heap.size c d) (hB:B≤b.heap.size):Below B a d:=
 (h.trans (k.mono hB)).trans (m.mono (Nat.le_trans hB k.size))
theorem e0A {b:World}:Below b.heap.size b b:=Below.refl _ _
theorem e1A {b:World} {x:Obj}:Below b.heap.size b (b.alloc x):=(Below.refl _ _).alloc (Nat.le_refl _) _
theorem e2A {b:World} {x y:Obj}:Below b.heap.size b ((b.alloc x).alloc y):=((Below.refl _ _).alloc (Nat.le_refl _) _).alloc (by simp) _
theorem e3A {b:World} {x y z:Obj}:Below b.heap.size b (((b.alloc x).alloc y).alloc z):=(((Below.refl _ _).alloc (Nat.le_refl _) _).alloc (by simp) _).alloc (by simp;omega) _
theorem e4A {b:World}:Below b.heap.size b b.drew:=(Below.refl _ _).drew
theorem e5A {b:World} {x:Obj}:Below b.heap.size b (b.alloc x).drew:=((Below.refl _ _).alloc (Nat.le_refl _) _).drew
end Go.Proofs.YtnfokaecobddkaaGreatDoor
end
section
namespace Go.Proofs.YtnfokaecobddkaaGreatDoor
open Go.RowKit
set_option linter.unusedSimpArgs false
set_option linter.unusedVariables false
def encA (a:AttrL):Value:=.agg #[.string a.space,.string a.name,.string a.value]
def encN (n:NodeL) (A:Option Addr) (c:Nat):Value:=.agg #[.int .u8 n.kind,.string n.space,.string n.name,.slice A n.attrs.length c,.string n.text,.int .i64 n.many]
def RdW (w:World) (B:Nat) (A:Option Addr) (l:List (List NodeL)):Prop:=0 < l.length→∃b off,A=some ⟨b,off,none⟩∧b < B∧∀i v,l[i]? = some v→∃A' c',w.cell? ⟨b,off+i,none⟩=some (.slice A' v.length c')∧v.length≤c'∧RdV w B A' v
theorem placeI_ge (o:Option Nat):decide (0≤placeI o)=o.isSome:=by
 cases o with
 | none=>rfl
 | some i=>simp [placeI]
set_option maxHeartbeats 1000000 in
theorem idxA_any (g:Nat) (lb:Array Value) (A:Option Addr) (c:Nat) (l:List (AttrL)) (p:AttrL→Bool) (w:World) (hr:RdA w w.heap.size A l) (hn:l.length≤1000000000)
  (eg:∀args w,(callFunc g args).run Tryz.prog w=.ok (.enter g args) w)
  (hp:∀(W:World) (i:Nat) (x:AttrL),Below w.heap.size w W→l[i]? = some x→Calls Tryz.prog g (#[encA x]++lb) W fun e w'=>e=.returned (.bool (p x))∧Below w.heap.size w w') :
  Calls Tryz.prog 84 #[.slice A l.length c,.func (.func g) #[] lb] w fun e w'=>e=.returned (.int .i64 (placeI (fstP p l)))∧Below w.heap.size w w':=by
 have HP:=Lib.hid hp
 have HR:=Lib.hid hr
 clear hp hr
 go_enter Tryz.func84,Tryz.ntmps84
 go_wp2
 go_loopw [5,8] (fun _ s8 wr=>∃k:Nat,k≤l.length∧s8=.int .i64 k∧Hid (Below w.heap.size w wr)∧Hid (∀(j:Nat) (y:AttrL),j < k→l[j]? = some y→p y=false)) (fun _ s8 _=>l.length - (intOf s8).toNat)
 case atStart=>exact⟨0,Nat.zero_le _,rfl,Lib.hid (Below.refl _ _),Lib.hid (fun j y hj=>absurd hj (by omega))⟩
 case round=>
  obtain⟨k,hk,rfl,HB,HN⟩:=hrel
  by_cases hlt:k < l.length
  ·obtain⟨x,hx⟩:∃x,l[k]? = some x:=⟨_,List.getElem?_eq_getElem hlt⟩
   have HX:=Lib.hid hx
   obtain⟨b,off,rfl,hb,hc⟩:=HR.out (by omega)
   obtain⟨c0,c1,c2⟩:=(hc k x hx).keep (w':=wr) hb (fun q hq=>HB.out.cell hq)
   have hcall:=HP.out wr k x HB.out hx
   have eg':=eg (#[encA x]++lb)
   clear hx hc hb
   cases hq:p x with
   | true=>
    have HF:Hid (fstP p l=some k):=fstP_is HX.out hq HN.out
    rw [hq] at hcall
    generalize l.length=n at *
    go_wp2_with fail
    refine hcall.mono ?_
    rintro e w1 ⟨rfl,hb1⟩
    have X1:=Lib.hid hb1
    clear hb1
    go_wp2
    go_ret
    exact⟨ret_int (by rw [HF.out];rfl),X1.out⟩
   | false=>
    have HF:Hid (∀(j:Nat) (y:AttrL),j < k+1→l[j]? = some y→p y=false):=Lib.hid (fun j y hj hy=>by
     rcases Nat.lt_or_ge j k with h1|h1
     ·exact HN.out j y h1 hy
     ·obtain rfl:j=k:=by omega
      rw [HX.out] at hy
      simp only [Option.some.injEq] at hy
      rw [←hy];exact hq)
    rw [hq] at hcall
    generalize l.length=n at *
    go_wp2_with fail
    refine hcall.mono ?_
    rintro e w1 ⟨rfl,hb1⟩
    have X1:=Lib.hid hb1
    clear hb1
    go_wp2
    go_roundw
    case rel=>exact⟨k+1,by omega,by go_num,X1,HF⟩
    case measure=>simp [intOf];omega
  ·have HF:Hid (fstP p l=none):=fstP_not (fun j y hy=>HN.out j y (by have:=(List.getElem?_eq_some_iff.1 hy).1;omega) hy)
   generalize l.length=n at *
   go_wp2
   go_ret
   exact⟨ret_int (by rw [HF.out];rfl),HB.out⟩
theorem hasA_any (g:Nat) (lb:Array Value) (A:Option Addr) (c:Nat) (l:List (AttrL)) (p:AttrL→Bool) (w:World) (hr:RdA w w.heap.size A l) (hn:l.length≤1000000000)
  (eg:∀args w,(callFunc g args).run Tryz.prog w=.ok (.enter g args) w)
  (hp:∀(W:World) (i:Nat) (x:AttrL),Below w.heap.size w W→l[i]? = some x→Calls Tryz.prog g (#[encA x]++lb) W fun e w'=>e=.returned (.bool (p x))∧Below w.heap.size w w') :
  Calls Tryz.prog 76 #[.slice A l.length c,.func (.func g) #[] lb] w fun e w'=>e=.returned (.bool (l.any p))∧Below w.heap.size w w':=by
 have H:=Lib.hid (idxA_any g lb A c l p w hr hn eg hp)
 have HX:Box (l.any p=decide (0≤placeI (fstP p l))):=⟨by rw [placeI_ge,fstP_any]⟩
 generalize placeI (fstP p l)=r at *
 generalize l.any p=b at *
 generalize l.length=n at *
 clear hp hr
 go_enter Tryz.func76,Tryz.ntmps76
 go_wp2_with fail
 refine H.out.mono ?_
 rintro e w1 ⟨rfl,hb1⟩
 go_wp2
 go_ret
 exact⟨ret_bool HX.out.symm,hb1⟩
set_option maxHeartbeats 1000000 in
theorem idxN_any (g:Nat) (lb:Array Value) (A:Option Addr) (c:Nat) (l:List (NodeL)) (p:NodeL→Bool) (w:World) (hr:RdV w w.heap.size A l) (hn:l.length≤1000000000)
  (eg:∀args w,(callFunc g args).run Tryz.prog w=.ok (.enter g args) w)
  (hp:∀(W:World) (i:Nat) (x:NodeL) (A':Option Addr) (c':Nat),Below w.heap.size w W→l[i]? = some x→x.attrs.length≤c'→RdA w w.heap.size A' x.attrs→Calls Tryz.prog g (#[encN x A' c']++lb) W fun e w'=>e=.returned (.bool (p x))∧Below w.heap.size w w') :
  Calls Tryz.prog 125 #[.slice A l.length c,.func (.func g) #[] lb] w fun e w'=>e=.returned (.int .i64 (placeI (fstP p l)))∧Below w.heap.size w w':=by
 have HP:=Lib.hid hp
 have HR:=Lib.hid hr
 clear hp hr
 go_enter Tryz.func125,Tryz.ntmps125
 go_wp2
 go_loopw [5,8] (fun _ s8 wr=>∃k:Nat,k≤l.length∧s8=.int .i64 k∧Hid (Below w.heap.size w wr)∧Hid (∀(j:Nat) (y:NodeL),j < k→l[j]? = some y→p y=false)) (fun _ s8 _=>l.length - (intOf s8).toNat)
 case atStart=>exact⟨0,Nat.zero_le _,rfl,Lib.hid (Below.refl _ _),Lib.hid (fun j y hj=>absurd hj (by omega))⟩
 case round=>
  obtain⟨k,hk,rfl,HB,HN⟩:=hrel
  by_cases hlt:k < l.length
  ·obtain⟨x,hx⟩:∃x,l[k]? = some x:=⟨_,List.getElem?_eq_getElem hlt⟩
   have HX:=Lib.hid hx
   obtain⟨b,off,rfl,hb,hc⟩:=HR.out (by omega)
   obtain⟨c0,c1,c2,⟨A',c',c3,hl',hA'⟩,c4,c5⟩:=(hc k x hx).keep (w':=wr) hb (fun q hq=>HB.out.cell hq)
   obtain⟨_,_,_,⟨A2,c2',d3,hl2,hA2⟩,_,_⟩:=hc k x hx
   have e3:=(HB.out.cell (p:=⟨b,off+k*6+3,none⟩) hb).trans d3
   rw [c3] at e3
   simp only [Option.some.injEq,Value.slice.injEq] at e3
   obtain⟨rfl,-,rfl⟩:=e3
   have HL2:=Lib.hid hl2
   have HA2:=Lib.hid hA2
   clear hl' hA' hl2 hA2 d3
   have hcall:=HP.out wr k x A' c' HB.out hx HL2.out HA2.out
   have eg':=eg (#[encN x A' c']++lb)
   clear hx hc hb
   cases hq:p x with
   | true=>
    have HF:Hid (fstP p l=some k):=fstP_is HX.out hq HN.out
    rw [hq] at hcall
    generalize l.length=n at *
    go_wp2_with fail
    refine hcall.mono ?_
    rintro e w1 ⟨rfl,hb1⟩
    have X1:=Lib.hid hb1
    clear hb1
    go_wp2
    go_ret
    exact⟨ret_int (by rw [HF.out];rfl),X1.out⟩
   | false=>
    have HF:Hid (∀(j:Nat) (y:NodeL),j < k+1→l[j]? = some y→p y=false):=Lib.hid (fun j y hj hy=>by
     rcases Nat.lt_or_ge j k with h1|h1
     ·exact HN.out j y h1 hy
     ·obtain rfl:j=k:=by omega
      rw [HX.out] at hy
      simp only [Option.some.injEq] at hy
      rw [←hy];exact hq)
    rw [hq] at hcall
    generalize l.length=n at *
    go_wp2_with fail
    refine hcall.mono ?_
    rintro e w1 ⟨rfl,hb1⟩
    have X1:=Lib.hid hb1
    clear hb1
    go_wp2
    go_roundw
    case rel=>exact⟨k+1,by omega,by go_num,X1,HF⟩
    case measure=>simp [intOf];omega
  ·have HF:Hid (fstP p l=none):=fstP_not (fun j y hy=>HN.out j y (by have:=(List.getElem?_eq_some_iff.1 hy).1;omega) hy)
   generalize l.length=n at *
   go_wp2
   go_ret
   exact⟨ret_int (by rw [HF.out];rfl),HB.out⟩
theorem hasN_any (g:Nat) (lb:Array Value) (A:Option Addr) (c:Nat) (l:List (NodeL)) (p:NodeL→Bool) (w:World) (hr:RdV w w.heap.size A l) (hn:l.length≤1000000000)
  (eg:∀args w,(callFunc g args).run Tryz.prog w=.ok (.enter g args) w)
  (hp:∀(W:World) (i:Nat) (x:NodeL) (A':Option Addr) (c':Nat),Below w.heap.size w W→l[i]? = some x→x.attrs.length≤c'→RdA w w.heap.size A' x.attrs→Calls Tryz.prog g (#[encN x A' c']++lb) W fun e w'=>e=.returned (.bool (p x))∧Below w.heap.size w w') :
  Calls Tryz.prog 77 #[.slice A l.length c,.func (.func g) #[] lb] w fun e w'=>e=.returned (.bool (l.any p))∧Below w.heap.size w w':=by
 have H:=Lib.hid (idxN_any g lb A c l p w hr hn eg hp)
 have HX:Box (l.any p=decide (0≤placeI (fstP p l))):=⟨by rw [placeI_ge,fstP_any]⟩
 generalize placeI (fstP p l)=r at *
 generalize l.any p=b at *
 generalize l.length=n at *
 clear hp hr
 go_enter Tryz.func77,Tryz.ntmps77
 go_wp2_with fail
 refine H.out.mono ?_
 rintro e w1 ⟨rfl,hb1⟩
 go_wp2
 go_ret
 exact⟨ret_bool HX.out.symm,hb1⟩
set_option maxHeartbeats 1000000 in
theorem idxT_any (g:Nat) (lb:Array Value) (A:Option Addr) (c:Nat) (l:List (List NodeL)) (p:List NodeL→Bool) (w:World) (hr:RdW w w.heap.size A l) (hn:l.length≤1000000000)
  (eg:∀args w,(callFunc g args).run Tryz.prog w=.ok (.enter g args) w)
  (hp:∀(W:World) (i:Nat) (x:List NodeL) (A':Option Addr) (c':Nat),Below w.heap.size w W→l[i]? = some x→x.length≤c'→RdV w w.heap.size A' x→Calls Tryz.prog g (#[.slice A' x.length c']++lb) W fun e w'=>e=.returned (.bool (p x))∧Below w.heap.size w w') :
  Calls Tryz.prog 80 #[.slice A l.length c,.func (.func g) #[] lb] w fun e w'=>e=.returned (.int .i64 (placeI (fstP p l)))∧Below w.heap.size w w':=by
 have HP:=Lib.hid hp
 have HR:=Lib.hid hr
 clear hp hr
 go_enter Tryz.func80,Tryz.ntmps80
 go_wp2
 go_loopw [5,8] (fun _ s8 wr=>∃k:Nat,k≤l.length∧s8=.int .i64 k∧Hid (Below w.heap.size w wr)∧Hid (∀(j:Nat) (y:List NodeL),j < k→l[j]? = some y→p y=false)) (fun _ s8 _=>l.length - (intOf s8).toNat)
 case atStart=>exact⟨0,Nat.zero_le _,rfl,Lib.hid (Below.refl _ _),Lib.hid (fun j y hj=>absurd hj (by omega))⟩
 case round=>
  obtain⟨k,hk,rfl,HB,HN⟩:=hrel
  by_cases hlt:k < l.length
  ·obtain⟨x,hx⟩:∃x,l[k]? = some x:=⟨_,List.getElem?_eq_getElem hlt⟩
   have HX:=Lib.hid hx
   obtain⟨b,off,rfl,hb,hc⟩:=HR.out (by omega)
   obtain⟨A',c',d0,hl2,hA2⟩:=hc k x hx
   have c0:=(HB.out.cell (p:=⟨b,off+k,none⟩) hb).trans d0
   have HL2:=Lib.hid hl2
   have HA2:=Lib.hid hA2
   clear hl2 hA2 d0
   have hcall:=HP.out wr k x A' c' HB.out hx HL2.out HA2.out
   have eg':=eg (#[.slice A' x.length c']++lb)
   clear hx hc hb
   cases hq:p x with
   | true=>
    have HF:Hid (fstP p l=some k):=fstP_is HX.out hq HN.out
    rw [hq] at hcall
    generalize l.length=n at *
    go_wp2_with fail
    refine hcall.mono ?_
    rintro e w1 ⟨rfl,hb1⟩
    have X1:=Lib.hid hb1
    clear hb1
    go_wp2
    go_ret
    exact⟨ret_int (by rw [HF.out];rfl),X1.out⟩
   | false=>
    have HF:Hid (∀(j:Nat) (y:List NodeL),j < k+1→l[j]? = some y→p y=false):=Lib.hid (fun j y hj hy=>by
     rcases Nat.lt_or_ge j k with h1|h1
     ·exact HN.out j y h1 hy
     ·obtain rfl:j=k:=by omega
      rw [HX.out] at hy
      simp only [Option.some.injEq] at hy
      rw [←hy];exact hq)
    rw [hq] at hcall
    generalize l.length=n at *
    go_wp2_with fail
    refine hcall.mono ?_
    rintro e w1 ⟨rfl,hb1⟩
    have X1:=Lib.hid hb1
    clear hb1
    go_wp2
    go_roundw
    case rel=>exact⟨k+1,by omega,by go_num,X1,HF⟩
    case measure=>simp [intOf];omega
  ·have HF:Hid (fstP p l=none):=fstP_not (fun j y hy=>HN.out j y (by have:=(List.getElem?_eq_some_iff.1 hy).1;omega) hy)
   generalize l.length=n at *
   go_wp2
   go_ret
   exact⟨ret_int (by rw [HF.out];rfl),HB.out⟩
theorem hasT_any (g:Nat) (lb:Array Value) (A:Option Addr) (c:Nat) (l:List (List NodeL)) (p:List NodeL→Bool) (w:World) (hr:RdW w w.heap.size A l) (hn:l.length≤1000000000)
  (eg:∀args w,(callFunc g args).run Tryz.prog w=.ok (.enter g args) w)
  (hp:∀(W:World) (i:Nat) (x:List NodeL) (A':Option Addr) (c':Nat),Below w.heap.size w W→l[i]? = some x→x.length≤c'→RdV w w.heap.size A' x→Calls Tryz.prog g (#[.slice A' x.length c']++lb) W fun e w'=>e=.returned (.bool (p x))∧Below w.heap.size w w') :
  Calls Tryz.prog 36 #[.slice A l.length c,.func (.func g) #[] lb] w fun e w'=>e=.returned (.bool (l.any p))∧Below w.heap.size w w':=by
 have H:=Lib.hid (idxT_any g lb A c l p w hr hn eg hp)
 have HX:Box (l.any p=decide (0≤placeI (fstP p l))):=⟨by rw [placeI_ge,fstP_any]⟩
 generalize placeI (fstP p l)=r at *
 generalize l.any p=b at *
 generalize l.length=n at *
 clear hp hr
 go_enter Tryz.func36,Tryz.ntmps36
 go_wp2_with fail
 refine H.out.mono ?_
 rintro e w1 ⟨rfl,hb1⟩
 go_wp2
 go_ret
 exact⟨ret_bool HX.out.symm,hb1⟩
end Go.Proofs.YtnfokaecobddkaaGreatDoor
end
