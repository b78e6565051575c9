/- Part 9 of a proof laid in parts, one behind the other; no condition of its own. -/
import Derived.Test.YtnmnpnofdgdigaaGreatDoorZ08
set_option linter.all false
section
namespace Go.Proofs.YtnmnpnofdgdigaaGreatDoor
open Go.RowKit
set_option linter.unusedSimpArgs false
set_option linter.unusedVariables false
theorem heap_ext {w w':World} {k:Nat} {o:Obj} (h:w.heap[k]? = some o) (hb:Below w.heap.size w w'):w'.heap[k]? = some o:=(hb.block k (Array.getElem?_eq_some_iff.1 h).1).trans h
def NewO (base:Nat) (v:Value) (w:World) (A:Option Addr) (l:List AttrL):Prop:=
 0 < l.length→∃b off,A=some ⟨b,off,none⟩∧base≤b∧v.ownBlock≠some b∧b < w.heap.size∧∀i a,l[i]? = some a→AtAt w b (off+i*3) a
theorem NewO.ext {base:Nat} {v:Value} {w w':World} {A:Option Addr} {l:List AttrL} (h:NewO base v w A l) (hb:Below w.heap.size w w'):NewO base v w' A l:=fun h0=>by
 obtain⟨b,off,h1,h2,h3,h4,h5⟩:=h h0
 exact⟨b,off,h1,h2,h3,Nat.lt_of_lt_of_le h4 hb.size,fun i a hi=>(h5 i a hi).keep h4 (fun p hp=>hb.cell hp)⟩
theorem NewO.app {base:Nat} {v v':Value} {w w':World} {A:Option Addr} {l:List AttrL} (h:NewO base v w A l) (hg:w.grownBy w' v.ownBlock) (hr:v'.ownBlock=v.ownBlock∨v'.ownBlock=some w.heap.size):NewO base v' w' A l:=fun h0=>by
 obtain⟨b,off,h1,h2,h3,h4,h5⟩:=h h0
 have hk:∀q:Nat,w'.cell? ⟨b,q,none⟩=w.cell? ⟨b,q,none⟩:=fun q=>World.cell?_of_block (hg.block b h4 (fun e=>h3 e.symm))
 refine⟨b,off,h1,h2,?_,Nat.lt_of_lt_of_le h4 hg.size,fun i a hi=>?_⟩
 ·rcases hr with e|e <;> rw [e]
  ·exact h3
  ·intro e
   cases e
   omega
 ·obtain⟨e0,e1,e2⟩:=h5 i a hi
  exact⟨(hk _).trans e0,(hk _).trans e1,(hk _).trans e2⟩
theorem NewO.newA {base n c:Nat} {w:World} {A B:Option Addr} {l:List AttrL} (h:NewO base (.slice B n c) w A l) (hB:B.isSome=true):NewA base (blk B) w A l:=fun h0=>by
 obtain⟨b,off,h1,h2,h3,h4,h5⟩:=h h0
 cases B with
 | none=>cases hB
 | some a=>exact⟨b,off,h1,h2,fun e=>h3 (by rw [e];rfl),h4,h5⟩
theorem NewO.of_own {base base':Nat} {v:Value} {w:World} {A:Option Addr} {c:Nat} {l:List AttrL} (h:w.ownsRow base' 75 3 (.slice A l.length c) l.length (cellsA l)) (hbb:base≤base') (hv:∀g,v.ownBlock=some g→g < base'):NewO base v w A l:=fun h0=>by
 obtain⟨b,off,rfl,hb,hc⟩:=rd_rda (Rd.of_own h) h0
 have hlt:=h.lt b rfl
 exact⟨b,off,rfl,by have:=hlt.1;omega,fun e=>by have:=hv b e;have:=hlt.1;omega,hlt.2,hc⟩
theorem own_set {w:World} {base s n:Nat} {e:TypeId} {v:Value} {xs:List Value} {g o:Nat} (h:w.ownsRow base e s v n xs) (hg:v.ownBlock≠some g) (u:Value):(w.setCell ⟨g,o,none⟩ u).ownsRow base e s v n xs:=
 h.kept (row:=some g) ⟨rfl,rfl,rfl,by simp [World.setCell],fun k _ hk=>heap_setCell_other w _ k _ (fun e=>hk (by rw [e]))⟩ (by cases h':v.ownBlock with|none=>exact .inl rfl|some q=>exact .inr (by rw [←h'];exact hg))
set_option maxHeartbeats 4000000 in
set_option maxRecDepth 10000 in
theorem reftwin_any (A:Option Addr) (c:Nat) (v:List NodeL) (w:World) (hr:RdV w w.heap.size A v) (hz:SzV 1000000000 v) :
  Calls Tryz.prog 7 #[.slice A v.length c] w (TwinPost v w):=by
 obtain⟨l0,hl0,hrd,hheld⟩:=rdv_rd hr
 have hlen:l0.length=v.length:=by rw [←hl0,List.length_map]
 have HH:=Lib.hid hheld
 have HM0:=Lib.hid hl0
 have HZ:=Lib.hid hz
 have hn:=hz.1
 have HRD:=Lib.hid hrd
 clear hr hheld hl0 hz hrd
 generalize hN:v.length=N at *
 have HN:=Lib.hid hN
 clear hN
 have HL:=Lib.hid hlen
 clear hlen
 go_enter Tryz.func7,Tryz.ntmps7
 go_wp2
 go_loopw [3,4,5] (fun s3 s4 _ wr=>∃(k:Nat) (l:List NodeH),k≤N∧s4=.int .i64 k∧Hid (Below w.heap.size w wr)∧Hid (wr.ownsRow w.heap.size 36 6 s3 k (cellsN l))∧Hid (l.map (·.1)=v.take k)∧Hid (l.length=k)∧
  Hid (∀(i:Nat) (x:NodeH),l[i]? = some x→x.1.attrs.length≤x.2.2∧NewO w.heap.size s3 wr x.2.1 x.1.attrs)) (fun _ s4 _ _=>N - (intOf s4).toNat)
 case atStart=>exact⟨0,[],Nat.zero_le _,rfl,Lib.hid (Below.refl _ _),World.ownsRow_nil _ _ _ _,Lib.hid rfl,Lib.hid rfl,Lib.hid (fun i x hi=>by simp at hi)⟩
 case round=>
  obtain⟨k,l,hk,rfl,HB,HO,HM,HLK,HI⟩:=hrel
  obtain⟨A1,c1,rfl⟩:=own_form HO.out
  by_cases hlt:k < N
  ·obtain⟨x,hx⟩:∃x,l0[k]? = some x:=⟨_,List.getElem?_eq_getElem (by rw [HL.out];omega)⟩
   obtain⟨b,off,rfl,hb,hcc⟩:=HRD.out.2 (by omega)
   have hcell:=fun j (hj:j < 6)=>(HB.out.cell (p:=⟨b,off+(k*6+j),none⟩) hb).trans (hcc (k*6+j) _ ((flat_get cN_len hx j hj).trans (List.getElem?_eq_getElem (by rw [cN_len];exact hj))))
   have d0:=hcell 0 (by decide)
   have d1:=hcell 1 (by decide)
   have d2:=hcell 2 (by decide)
   have d3:=hcell 3 (by decide)
   have d4:=hcell 4 (by decide)
   have d5:=hcell 5 (by decide)
   simp only [cN,Nat.add_zero,List.getElem_cons_zero,List.getElem_cons_succ,←Nat.add_assoc] at d0 d1 d2 d3 d4 d5
   have hxv:v[k]? = some x.1:=by rw [←HM0.out,List.getElem?_map,hx];rfl
   have hzx:=(szv_get' HZ.out hxv)
   obtain⟨hca,hra⟩:=HH.out k x hx
   have HXV:=Lib.hid hxv
   obtain⟨n,An,cn⟩:=x
   dsimp only at d0 d1 d2 d3 d4 d5 hxv hzx hca hra
   obtain⟨W0,hW0⟩:∃W0,W0=wr.alloc (.cells #[.int .u8 n.kind,.string n.space,.string n.name,.slice An n.attrs.length cn,.string n.text,.int .i64 n.many] 36):=⟨_,rfl⟩
   have hs0:W0.heap.size=wr.heap.size+1:=by rw [hW0];simp
   have hsz:=HB.out.size
   have HX0:Hid (Below w.heap.size w W0):=by rw [hW0];exact HB.out.alloc hsz _
   have HXr:Hid (Below wr.heap.size wr W0):=by rw [hW0];exact(Below.refl _ _).alloc (Nat.le_refl _) _
   have HXH:Hid (W0.heap[wr.heap.size]? = some (.cells #[.int .u8 n.kind,.string n.space,.string n.name,.slice An n.attrs.length cn,.string n.text,.int .i64 n.many] 36 (0,0))):=by rw [hW0];exact heap_alloc_new wr _
   have HRA:Hid (Rd (W0.alloc (.cells #[] 75)) w.heap.size 3 An n.attrs.length (cellsA n.attrs)):=Lib.hid ((rda_rd ((hra.below HX0.out (Nat.le_refl _)))).alloc (by omega) _)
   have HOA:Hid ((W0.alloc (.cells #[] 75)).ownsRow (wr.heap.size+1) 75 3 (.slice (some ⟨wr.heap.size+1,0,none⟩) 0 0) 0 (cellsA [])):=by rw [←hs0];exact World.ownsRow_lit W0 #[] 0 (Nat.le_refl _) (by decide) rfl
   have HXA:Hid (Below W0.heap.size W0 (W0.alloc (.cells #[] 75))):=(Below.refl _ _).alloc (Nat.le_refl _) _
   have HWE:=Lib.hid hW0
   rw [hW0] at HRA HOA
   clear hx hcell hxv hca hra hW0 hcc
   go_wp2_with (at_builtin;refine app_attrs rfl _ _ rfl (wr.heap.size+1) _ 0 [] rfl HOA.out _ _ _ _ n.attrs rfl HRA.out (by omega) (by simp) ?_)
   intro v2 w2 hown2 hg _
   rw [←HWE.out] at hg
   obtain⟨A2,c2,rfl⟩:=own_form hown2
   have hrow:(Value.slice (some ⟨wr.heap.size+1,0,none⟩) 0 0).ownBlock=some (wr.heap.size+1):=rfl
   rw [hrow] at hg
   have HXr2:Hid (Below wr.heap.size wr w2):=(HXr.out.trans (HXA.out.mono (by omega))).grown hg (by simp;omega) (fun q hq=>by cases hq;omega)
   have HX2:Hid (Below w.heap.size w w2):=HB.out.trans (HXr2.out.mono hsz)
   have HH2:Hid (w2.heap[wr.heap.size]? = some (.cells #[.int .u8 n.kind,.string n.space,.string n.name,.slice An n.attrs.length cn,.string n.text,.int .i64 n.many] 36 (0,0))):=(hg.block _ (by simp;omega) (by simp)).trans ((Below.heap_alloc W0 _ _ (by omega)).trans HXH.out)
   have HLE2:=Lib.hid (own_le hown2)
   have HO2:=Lib.hid hown2
   have HGS:=Lib.hid (hg.size)
   obtain⟨W3,hW3⟩:∃W3,W3=w2.setCell ⟨wr.heap.size,3,none⟩ (.slice A2 n.attrs.length c2):=⟨_,rfl⟩
   have c0:w2.cell? ⟨wr.heap.size,3,none⟩=some (.slice An n.attrs.length cn):=by simp [World.cell?,HH2.out]
   have f0:=frozen_of_row w2 wr.heap.size 3 _ _ HH2.out
   have HH3:Hid (W3.heap[wr.heap.size]? = some (.cells #[.int .u8 n.kind,.string n.space,.string n.name,.slice A2 n.attrs.length c2,.string n.text,.int .i64 n.many] 36 (0,0))):=by
    rw [hW3]
    exact heap_setCell_same w2 wr.heap.size 3 _ _ _ HH2.out
   have g0:W3.cell? ⟨wr.heap.size,0,none⟩=some (.int .u8 n.kind):=by simp [World.cell?,HH3.out]
   have g1:W3.cell? ⟨wr.heap.size,1,none⟩=some (.string n.space):=by simp [World.cell?,HH3.out]
   have g2:W3.cell? ⟨wr.heap.size,2,none⟩=some (.string n.name):=by simp [World.cell?,HH3.out]
   have g3:W3.cell? ⟨wr.heap.size,3,none⟩=some (.slice A2 n.attrs.length c2):=by simp [World.cell?,HH3.out]
   have g4:W3.cell? ⟨wr.heap.size,4,none⟩=some (.string n.text):=by simp [World.cell?,HH3.out]
   have g5:W3.cell? ⟨wr.heap.size,5,none⟩=some (.int .i64 n.many):=by simp [World.cell?,HH3.out]
   rw [hW3] at g0 g1 g2 g3 g4 g5
   have hlt1:∀q,(Value.slice A1 k c1).ownBlock=some q→q < wr.heap.size:=fun q hq=>(HO.out.lt q hq).2
   have HLT1:=Lib.hid hlt1
   have HON:Hid (((w2.setCell ⟨wr.heap.size,3,none⟩ (.slice A2 n.attrs.length c2)).alloc (.cells #[.int .u8 n.kind,.string n.space,.string n.name,.slice A2 n.attrs.length c2,.string n.text,.int .i64 n.many] 36)).ownsRow w.heap.size 36 6 (.slice A1 k c1) k (cellsN l)):=
    (own_set (own_keep HO.out HXr2.out) (fun e=>by have:=hlt1 _ e;omega) _).alloc _
   have HRN:Hid (Rd ((w2.setCell ⟨wr.heap.size,3,none⟩ (.slice A2 n.attrs.length c2)).alloc (.cells #[.int .u8 n.kind,.string n.space,.string n.name,.slice A2 n.attrs.length c2,.string n.text,.int .i64 n.many] 36)) (w2.heap.size+1) 6 (some ⟨w2.heap.size,0,none⟩) 1 (cellsN [(n,A2,c2)])):=by
    have h:=Rd.new (w2.setCell ⟨wr.heap.size,3,none⟩ (.slice A2 n.attrs.length c2)) 36 #[.int .u8 n.kind,.string n.space,.string n.name,.slice A2 n.attrs.length c2,.string n.text,.int .i64 n.many] (s:=6) (n:=1) rfl
    rw [show(w2.setCell ⟨wr.heap.size,3,none⟩ (.slice A2 n.attrs.length c2)).heap.size=w2.heap.size by simp [World.setCell]] at h
    exact h
   have HX3:Hid (Below wr.heap.size wr ((w2.setCell ⟨wr.heap.size,3,none⟩ (.slice A2 n.attrs.length c2)).alloc (.cells #[.int .u8 n.kind,.string n.space,.string n.name,.slice A2 n.attrs.length c2,.string n.text,.int .i64 n.many] 36))):=
    (HXr2.out.setCell (p:=⟨wr.heap.size,3,none⟩) (Nat.le_refl _) _).alloc (by have:=HXr2.out.size;simp [World.setCell];omega) _
   have HX2b:Hid (Below w2.heap.size (w2.setCell ⟨wr.heap.size,3,none⟩ (.slice A2 n.attrs.length c2)) ((w2.setCell ⟨wr.heap.size,3,none⟩ (.slice A2 n.attrs.length c2)).alloc (.cells #[.int .u8 n.kind,.string n.space,.string n.name,.slice A2 n.attrs.length c2,.string n.text,.int .i64 n.many] 36))):=(Below.refl _ _).alloc (by simp [World.setCell]) _
   have hs2:=HXr2.out.size
   have HO3:Hid (((w2.setCell ⟨wr.heap.size,3,none⟩ (.slice A2 n.attrs.length c2)).alloc (.cells #[.int .u8 n.kind,.string n.space,.string n.name,.slice A2 n.attrs.length c2,.string n.text,.int .i64 n.many] 36)).ownsRow (wr.heap.size+1) 75 3 (.slice A2 n.attrs.length c2) n.attrs.length (cellsA n.attrs)):=
    (own_set HO2.out (fun e=>by have:=(HO2.out.lt _ e).1;omega) _).alloc _
   clear hown2 hg hlt1
   go_wp2_with (at_builtin;refine app_nodes rfl _ _ rfl w.heap.size _ k l rfl HON.out _ _ _ _ [(n,A2,c2)] rfl HRN.out (by omega) (by simp [World.setCell];omega) ?_)
   intro v4 w4 hown4 hg4 hbk
   have HO4:=Lib.hid hown4
   have HX4:Hid (Below w.heap.size w w4):=(HB.out.trans (HX3.out.mono hsz)).grown hg4 (by simp [World.setCell];omega) (fun q hq=>(HO.out.lt q hq).1)
   have HG4:=Lib.hid hg4
   have HBK:=Lib.hid hbk
   clear hown4 hg4 hbk
   go_wp2
   go_roundw
   case rel=>
    refine⟨k+1,l++[(n,A2,c2)],by omega,by go_num,HX4,HO4,Lib.hid ?_,Lib.hid (by rw [List.length_append,HLK.out];rfl),Lib.hid fun i x hi=>?_⟩
    ·rw [List.map_append,HM.out,List.take_add_one,HXV.out];rfl
    ·rcases Nat.lt_or_ge i k with h1|h1
     ·rw [List.getElem?_append_left (by rw [HLK.out];exact h1)] at hi
      obtain⟨q1,q2⟩:=HI.out i x hi
      exact⟨q1,(q2.ext HX3.out).app HG4.out (by simpa [World.setCell] using HBK.out)⟩
     ·have hik:i=k:=by
       have:=(List.getElem?_eq_some_iff.1 hi).1
       rw [List.length_append,HLK.out,List.length_cons,List.length_nil] at this
       omega
      subst hik
      rw [List.getElem?_append_right (by rw [HLK.out];exact Nat.le_refl _),HLK.out,Nat.sub_self] at hi
      simp only [List.getElem?_cons_zero,Option.some.injEq] at hi
      subst hi
      exact⟨HLE2.out,(NewO.of_own (v:=.slice A1 i c1) HO3.out (by omega) (fun g hg=>by have:=HLT1.out g hg;omega)).app HG4.out (by simpa [World.setCell] using HBK.out)⟩
   case measure=>simp [intOf];omega
  ·obtain rfl:k=N:=by omega
   have HLE:=Lib.hid (own_le HO.out)
   go_wp2
   go_ret
   have hmv:l.map (·.1)=v:=by rw [HM.out,←HN.out,List.take_length]
   refine⟨A1,c1,by rw [HN.out];rfl,by rw [HN.out];exact HLE.out,⟨l,hmv,by rw [HN.out];exact HO.out,fun i x hi=>⟨(HI.out i x hi).1,(HI.out i x hi).2.newA ?_⟩⟩,HB.out⟩
   obtain⟨g,hg,_⟩:=own_some HO.out (by have:=(List.getElem?_eq_some_iff.1 hi).1;have:=HLK.out;omega)
   rw [hg];rfl
end Go.Proofs.YtnmnpnofdgdigaaGreatDoor
end
