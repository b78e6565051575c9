/- Part 25 of a proof laid in parts, one behind the other; no condition of its own. -/
import Derived.Test.YtnmnpnofdgdigaaGreatDoorZ24
import Derived.Deep.DeepCutAuto
import Derived.Test.YtnmnpnofdgdigaaGreatDoorZ15
import Derived.Lib.SmallJoins
set_option linter.all false
section
namespace Go.Proofs.YtnmnpnofdgdigaaGreatDoor
open Go.RowKit
set_option linter.unusedSimpArgs false
set_option linter.unusedVariables false
theorem gtree_bare (g:ByteArray):∀n∈gtree g,n.attrs=[]:=fun n hn=>by
 unfold gtree at hn
 rcases List.mem_cons.1 hn with rfl|hn
 ·rfl
 ·rw [List.mem_singleton.1 hn];rfl
def attrs2 (j n:ByteArray):List AttrL:=withA (withA [] (⟨#[106,105,100]⟩:ByteArray) j) (⟨#[110,97,109,101]⟩:ByteArray) n
set_option maxHeartbeats 8000000 in
set_option maxRecDepth 10000 in
theorem refitem22_any (x:ItemL) (gone:Bool) (A:Option Addr) (c:Nat) (w:World) (hz:SzI x) (hr:RdS w A x.groups) (hc:x.groups.length≤c) :
  Calls Tryz.prog 128 #[encT x A c,.bool gone] w (TwinPost (itemT gone x) w):=by
 obtain⟨W0,hW0⟩:∃W0,W0=w.alloc (.cells (cI x A c) 54):=⟨_,rfl⟩
 have hX0:Below w.heap.size w W0:=by rw [hW0];exact(Below.refl _ _).alloc (Nat.le_refl _) _
 have R0:Hid (Row W0 w.heap.size (cI x A c)):=Lib.hid (by rw [hW0];exact Row.new w _ _)
 have hs0:W0.heap.size=w.heap.size+1:=by rw [hW0];simp
 have L0:=Lib.hid (show w.heap.size+1≤W0.drew.heap.size by show _≤W0.heap.size;omega)
 have HW0:=Lib.hid hW0
 have L1:=Lib.hid (show(withA [] (⟨#[106,105,100]⟩:ByteArray) x.jid).length≤1000 by have h1:=withA_len [] (⟨#[106,105,100]⟩:ByteArray) x.jid;simp only [List.length_nil] at h1;omega)
 have L2:=Lib.hid (show(withA (withA [] (⟨#[106,105,100]⟩:ByteArray) x.jid) (⟨#[110,97,109,101]⟩:ByteArray) x.name).length≤2 by have h1:=withA_len [] (⟨#[106,105,100]⟩:ByteArray) x.jid;have h2:=withA_len (withA [] (⟨#[106,105,100]⟩:ByteArray) x.jid) (⟨#[110,97,109,101]⟩:ByteArray) x.name;simp only [List.length_nil] at h1;omega)
 have HR:=Lib.hid (fun W (hW:Below (w.heap.size+1) W0.drew W)=>(show Below w.heap.size w W∧Row W w.heap.size (cI x A c) from⟨hX0.trans ((Below.refl w.heap.size W0).drew.trans (hW.mono (Nat.le_succ _))),(R0.out.ext (Below.refl _ W0).drew).extB hW (Nat.lt_succ_self _)⟩))
 have HK:=Lib.hid (fun W (hW:Below (w.heap.size+1) W0.drew W)=>((⟨(HR.out W hW).2.at' 0 rfl,(HR.out W hW).2.at' 1 rfl⟩:W.cell? ⟨w.heap.size,0,none⟩=some (.string x.jid)∧W.cell? ⟨w.heap.size,1,none⟩=some (.string x.name))))
 have bC:Below (w.heap.size+1) W0.drew (W0.alloc (.cells zeroC 36)).drew:=(show Below (w.heap.size+1) W0.drew (W0.drew.alloc (.cells zeroC 36)) from(Below.refl _ _).alloc L0.out _)
 have HC:=Lib.hid (fun q (h:Below (w.heap.size+2) (W0.alloc (.cells zeroC 36)).drew q)=>(show Below (w.heap.size+1) W0.drew q∧NdW q W0.heap.size zeroC from⟨bC.trans (h.mono (Nat.le_succ _)),(h.block W0.heap.size (by omega)).trans (heap_alloc_new W0 _)⟩))
 have LC:=Lib.hid (show w.heap.size+2≤(W0.alloc (.cells zeroC 36)).drew.heap.size by show _≤(W0.alloc _).heap.size;simp;omega)
 have HKC:=Lib.hid (HK.out _ bC)
 have GC:=Lib.hid (show w.heap.size < W0.heap.size by omega)
 have HT1:Hid (itemT true x=[⟨1,(⟨#[106,97,98,98,101,114,58,105,113,58,114,111,115,116,101,114]⟩:ByteArray),(⟨#[105,116,101,109]⟩:ByteArray),withA (attrs2 x.jid x.name) (⟨#[115,117,98,115,99,114,105,112,116,105,111,110]⟩:ByteArray) (⟨#[114,101,109,111,118,101]⟩:ByteArray),⟨#[]⟩,0⟩]):=Lib.hid rfl
 have HT2:Hid (laidI x 0=[⟨1,(⟨#[106,97,98,98,101,114,58,105,113,58,114,111,115,116,101,114]⟩:ByteArray),(⟨#[105,116,101,109]⟩:ByteArray),withA (withA (attrs2 x.jid x.name) (⟨#[115,117,98,115,99,114,105,112,116,105,111,110]⟩:ByteArray) (wordSub x)) (⟨#[97,115,107]⟩:ByteArray) (asksB x),⟨#[]⟩,(x.groups.length:Int)⟩]):=Lib.hid (by unfold laidI;rfl)
 have HTA:=Lib.hid (laidI_all x)
 have HTS:=Lib.hid (fun i g (h:x.groups[i]? = some g)=>laidI_succ (x:=x) (i:=i) (g:=g) h)
 have HTN:=Lib.hid (laidI_len x)
 have HWD:=Lib.hid (fun W=>refsubword_any x W)
 have HASK:Box (asksB x=if x.out then(⟨#[115,117,98,115,99,114,105,98,101]⟩:ByteArray) else⟨#[]⟩):=⟨rfl⟩
 have hgl:=hz.2.2.1
 have HGR:=Lib.hid hr
 have HTT:=Lib.hid (show itemT gone x=if gone then itemT true x else itemT false x by cases gone <;> rfl)
 clear hz hr
 unfold TwinPost
 unfold encT
 unfold cI at HW0 R0 HR ⊢
 generalize itemT gone x=T at *
 generalize itemT true x=TT at *
 generalize itemT false x=TF at *
 generalize wordSub x=ws at *
 generalize asksB x=ask at *
 generalize laidI x=lt at *
 generalize x.groups=gs at *
 generalize x.jid=xj at *
 generalize x.name=xn at *
 generalize x.to=xt at *
 generalize x.frm=xf at *
 generalize x.inn=xi at *
 generalize x.known=xk at *
 generalize x.out=xo at *
 unfold zeroC at HC LC HKC
 clear hX0 hW0 hs0 bC
 go_enter Tryz.func128,Tryz.ntmps128
 go_upto_region 1 with fail
 rw [←HW0.out]
 go_cut [5] (fun s5 wx=>∃(g:Nat) (B:Option Addr) (cb:Nat),s5=.pointer (some ⟨g,0,none⟩)∧Hid (ItS w #[.string xj,.string xn,.slice A gs.length c,.bool xt,.bool xo,.bool xf,.bool xi,.bool xk] g 0 (attrs2 xj xn) (.slice B (attrs2 xj xn).length cb) wx))
 case first=>
  go_region_held3 (fun w'=>w'.cell? ⟨w.heap.size,0,none⟩=some (.string xj)∧w'.cell? ⟨w.heap.size,1,none⟩=some (.string xn))
   (first|(with_reducible exact set6_S (Nat.ne_of_lt NG.out) (HK.out _ k2.out) _ _ _ _ _ _)|(with_reducible exact HK.out _ k2.out)|(with_reducible exact HK.out _ k1.out)|(with_reducible exact HK.out _ (Below.refl _ _))|(with_reducible exact HKC.out)|(with_reducible exact HK.out _ (k2.out.alloc (Nat.le_trans L0.out k2.out.size) _))|(with_reducible exact HK.out _ (k1.out.alloc (Nat.le_trans L0.out k1.out.size) _)))
   (first
    | (go_at_call 94;(with_reducible refine(with_any2 (w.heap.size+1) u1 _ (⟨#[110,97,109,101]⟩:ByteArray) xn _ o1.out (Nat.le_trans L0.out k1.out.size) L1.out).mono ?_);rintro e q2 ⟨u2,rfl,o2',b2',n2'⟩;obtain⟨A2,c2,rfl⟩:=own_form o2';have o2:=Lib.hid o2';have k2:Hid (Below (w.heap.size+1) W0.drew q2):=Lib.hid (k1.out.trans b2');clear o2' b2' n2')
    | (go_at_call 94;(with_reducible refine(with_any2 (w.heap.size+1) u1 _ (⟨#[110,97,109,101]⟩:ByteArray) xn _ (o1.out.alloc _) (z1.out _) L1.out).mono ?_);rintro e q2 ⟨u2,rfl,o2',b2',n2'⟩;obtain⟨A2,c2,rfl⟩:=own_form o2';have o2:=Lib.hid o2';have k2:Hid (Below (w.heap.size+1) W0.drew q2):=Lib.hid ((k1.out.alloc (Nat.le_trans L0.out k1.out.size) _).trans b2');have N2:Hid (NdW q2 q1.heap.size #[.int .u8 0,.string ⟨#[]⟩,.string ⟨#[]⟩,.slice none 0 0,.string ⟨#[]⟩,.int .i64 0]):=Lib.hid ((n2' _ (by simp) (fun e=>by have:=(o1.out.lt _ e.symm).2;omega)).trans (heap_alloc_new q1 _));have NG:=Lib.hid (show w.heap.size < q1.heap.size by have h1:=L0.out;have h2:=k1.out.size;omega);generalize hgq:q1.heap.size=gq at *;clear o2' b2' n2' hgq;have zz0:=N2.out.row.at' 0 rfl;have zz1:=N2.out.row.at' 1 rfl;have zz2:=N2.out.row.at' 2 rfl;have zz3:=N2.out.row.at' 3 rfl;have zz4:=N2.out.row.at' 4 rfl;have zz5:=N2.out.row.at' 5 rfl;have ff0:=N2.out.row.fz 0;have ff1:=N2.out.row.fz 1;have ff2:=N2.out.row.fz 2;have ff3:=N2.out.row.fz 3;have ff4:=N2.out.row.fz 4;have ff5:=N2.out.row.fz 5)
    | (go_at_call 94;(with_reducible refine(with_any2 (w.heap.size+2) u1 _ (⟨#[110,97,109,101]⟩:ByteArray) xn _ oC.out (Nat.le_trans LC.out kC.out.size) L1.out).mono ?_);rintro e q2 ⟨u2,rfl,o2',b2',n2'⟩;obtain⟨A2,c2,rfl⟩:=own_form o2';have o2:=Lib.hid (own_mono o2' (Nat.le_succ (w.heap.size+1)));have k2:Hid (Below (w.heap.size+1) W0.drew q2):=Lib.hid (HC.out _ (kC.out.trans b2')).1;have N2:=Lib.hid (HC.out _ (kC.out.trans b2')).2;have NG:=GC;clear o2' b2' n2';have zz0:=N2.out.row.at' 0 rfl;have zz1:=N2.out.row.at' 1 rfl;have zz2:=N2.out.row.at' 2 rfl;have zz3:=N2.out.row.at' 3 rfl;have zz4:=N2.out.row.at' 4 rfl;have zz5:=N2.out.row.at' 5 rfl;have ff0:=N2.out.row.fz 0;have ff1:=N2.out.row.fz 1;have ff2:=N2.out.row.fz 2;have ff3:=N2.out.row.fz 3;have ff4:=N2.out.row.fz 4;have ff5:=N2.out.row.fz 5)
    | (go_at_call 94;(with_reducible refine(with_any2 (w.heap.size+1) (.slice none 0 0) [] (⟨#[106,105,100]⟩:ByteArray) xj _ (World.ownsRow_nil _ _ _ _) L0.out (by decide)).mono ?_);rintro e q1 ⟨u1,rfl,o1',b1',n1'⟩;have o1:=Lib.hid o1';have k1:Hid (Below (w.heap.size+1) W0.drew q1):=Lib.hid b1';have z1:=Lib.hid (fun(o:Obj)=>(show w.heap.size+1≤(q1.alloc o).heap.size by have h1:=L0.out;have h2:=k1.out.size;simp;omega));clear o1' b1' n1')
    | (go_at_call 94;(with_reducible refine(with_any2 (w.heap.size+2) (.slice none 0 0) [] (⟨#[106,105,100]⟩:ByteArray) xj _ (World.ownsRow_nil _ _ _ _) LC.out (by decide)).mono ?_);rintro e q1 ⟨u1,rfl,oC',bC',n1'⟩;have oC:=Lib.hid oC';have kC:=Lib.hid bC';have k1:Hid (Below (w.heap.size+1) W0.drew q1):=Lib.hid (HC.out _ bC').1;clear oC' bC' n1'))
  all_goals (go_wp2_with fail;go_meet;first|(have h:=itS_set (HR.out _ k2.out).1 (HR.out _ k2.out).2 N2.out o2.out NG.out;exact⟨_,_,_,rfl,Lib.hid h⟩)|(have h:=itS_new (HR.out _ k2.out).1 (HR.out _ k2.out).2 o2.out;exact⟨_,_,_,rfl,Lib.hid h⟩))
 case rest=>
  obtain⟨g,B,cb,rfl,HI⟩:=hcut
  clear R0 HW0 HR HK HC LC HKC GC L0 L1
  cases gone
  ·have HTE:=Lib.hid (HTA.out.trans HTT.out.symm)
   clear HT1 HTA HTT
   have HCS:=Lib.hid (HI.out.ext (Below.refl _ wc).drew)
   have L3:Hid ((withA (attrs2 xj xn) (⟨#[115,117,98,115,99,114,105,112,116,105,111,110]⟩:ByteArray) ws).length≤3):=Lib.hid (Nat.le_trans (withA_len _ _ _) (Nat.succ_le_succ L2.out))
   go_upto_region 5 with fail
   go_cut [5] (fun s5 wx=>∃(B5:Option Addr) (c5:Nat),s5=.pointer (some ⟨g,0,none⟩)∧Hid (ItS w #[.string xj,.string xn,.slice A gs.length c,.bool xt,.bool xo,.bool xf,.bool xi,.bool xk] g 0 (withA (attrs2 xj xn) (⟨#[115,117,98,115,99,114,105,112,116,105,111,110]⟩:ByteArray) ws) (.slice B5 (withA (attrs2 xj xn) (⟨#[115,117,98,115,99,114,105,112,116,105,111,110]⟩:ByteArray) ws).length c5) wx))
   case first=>
    have e3:=HCS.out.n.row.at' 3 rfl
    have RD:=Lib.hid HCS.out.r
    have k0:wc.drew.cell? ⟨w.heap.size,0,none⟩=some _:=RD.out.at' 0 rfl
    have k1:wc.drew.cell? ⟨w.heap.size,1,none⟩=some _:=RD.out.at' 1 rfl
    have k2:wc.drew.cell? ⟨w.heap.size,2,none⟩=some _:=RD.out.at' 2 rfl
    have k3:wc.drew.cell? ⟨w.heap.size,3,none⟩=some _:=RD.out.at' 3 rfl
    have k4:wc.drew.cell? ⟨w.heap.size,4,none⟩=some _:=RD.out.at' 4 rfl
    have k5:wc.drew.cell? ⟨w.heap.size,5,none⟩=some _:=RD.out.at' 5 rfl
    have k6:wc.drew.cell? ⟨w.heap.size,6,none⟩=some _:=RD.out.at' 6 rfl
    have k7:wc.drew.cell? ⟨w.heap.size,7,none⟩=some _:=RD.out.at' 7 rfl
    go_region_law (first
     | (go_simp;go_at_call 180;(refine(HWD.out _).mono ?_);rintro e w5 ⟨rfl,hb5⟩;have HI5:=Lib.hid (HCS.out.ext hb5);have e3':=HI5.out.n.row.at' 3 rfl;clear hb5)
     | (go_simp;go_at_call 94;(refine(with_any2 (w.heap.size+1) _ (attrs2 xj xn) (⟨#[115,117,98,115,99,114,105,112,116,105,111,110]⟩:ByteArray) ws _ HI5.out.o HI5.out.r.lt (Nat.le_trans L2.out (by decide))).mono ?_);rintro e w6 ⟨u6,rfl,o6,b6,n6⟩;obtain⟨A6,c6,rfl⟩:=own_form o6;have N6:=HI5.out.node n6;have d3:=N6.row.at' 3 rfl;have f3:=N6.row.fz 3;have S6:=Lib.hid (HI5.out.step o6 b6 n6);clear o6 b6 n6 N6))
    all_goals (go_wp2_with fail;go_meet;exact⟨_,_,rfl,S6⟩)
   case rest=>
    obtain⟨B5,c5,rfl,H5⟩:=hcut
    clear HCS HI
    have R5:=Lib.hid H5.out.r
    have k0:wc.cell? ⟨w.heap.size,0,none⟩=some _:=R5.out.at' 0 rfl
    have k1:wc.cell? ⟨w.heap.size,1,none⟩=some _:=R5.out.at' 1 rfl
    have k2:wc.cell? ⟨w.heap.size,2,none⟩=some _:=R5.out.at' 2 rfl
    have k3:wc.cell? ⟨w.heap.size,3,none⟩=some _:=R5.out.at' 3 rfl
    have k4:wc.cell? ⟨w.heap.size,4,none⟩=some _:=R5.out.at' 4 rfl
    have k5:wc.cell? ⟨w.heap.size,5,none⟩=some _:=R5.out.at' 5 rfl
    have k6:wc.cell? ⟨w.heap.size,6,none⟩=some _:=R5.out.at' 6 rfl
    have k7:wc.cell? ⟨w.heap.size,7,none⟩=some _:=R5.out.at' 7 rfl
    go_upto_if 31 with fail
    go_cut [5] (fun s5 wx=>∃(B7:Option Addr) (c7:Nat),s5=.pointer (some ⟨g,0,none⟩)∧Hid (ItS w #[.string xj,.string xn,.slice A gs.length c,.bool xt,.bool xo,.bool xf,.bool xi,.bool xk] g 0 (withA (withA (attrs2 xj xn) (⟨#[115,117,98,115,99,114,105,112,116,105,111,110]⟩:ByteArray) ws) (⟨#[97,115,107]⟩:ByteArray) ask) (.slice B7 (withA (withA (attrs2 xj xn) (⟨#[115,117,98,115,99,114,105,112,116,105,111,110]⟩:ByteArray) ws) (⟨#[97,115,107]⟩:ByteArray) ask).length c7) wx))
    case first=>
     cases xo
     ·have ha:Hid ((withA (withA (attrs2 xj xn) (⟨#[115,117,98,115,99,114,105,112,116,105,111,110]⟩:ByteArray) ws) (⟨#[97,115,107]⟩:ByteArray) ask)=(withA (attrs2 xj xn) (⟨#[115,117,98,115,99,114,105,112,116,105,111,110]⟩:ByteArray) ws)):=Lib.hid (by rw [show ask=emB from HASK.out];exact withA_em _ _)
      go_wp2_with fail
      go_meet
      exact⟨B5,c5,rfl,by rw [ha.out];exact H5⟩
     ·have ha:Hid (ask=(⟨#[115,117,98,115,99,114,105,98,101]⟩:ByteArray)):=Lib.hid HASK.out
      have e3:=H5.out.n.row.at' 3 rfl
      go_wp2_with fail
      refine(with_any2 (w.heap.size+1) _ (withA (attrs2 xj xn) (⟨#[115,117,98,115,99,114,105,112,116,105,111,110]⟩:ByteArray) ws) (⟨#[97,115,107]⟩:ByteArray) (⟨#[115,117,98,115,99,114,105,98,101]⟩:ByteArray) _ H5.out.o H5.out.r.lt (Nat.le_trans L3.out (by decide))).mono ?_
      rintro e w6 ⟨u6,rfl,o6,b6,n6⟩
      rw [←ha.out] at o6
      obtain⟨A6,c6,rfl⟩:=own_form o6
      have N6:=H5.out.node n6
      have d3:=N6.row.at' 3 rfl
      have f3:=N6.row.fz 3
      have S6:=Lib.hid (H5.out.step o6 b6 n6)
      clear o6 b6 n6 N6 e3
      go_wp2_with fail
      go_meet
      exact⟨_,_,rfl,S6⟩
    case rest=>
     obtain⟨B7,c7,rfl,H7⟩:=hcut
     clear R5 H5 HASK L3 L2 k0 k1 k2 k3 k4 k5 k6 k7
     generalize (withA (withA (attrs2 xj xn) (⟨#[115,117,98,115,99,114,105,112,116,105,111,110]⟩:ByteArray) ws) (⟨#[97,115,107]⟩:ByteArray) ask)=L at HT2 H7
     have R7:=Lib.hid H7.out.r
     have k0:wc.cell? ⟨w.heap.size,0,none⟩=some _:=R7.out.at' 0 rfl
     have k1:wc.cell? ⟨w.heap.size,1,none⟩=some _:=R7.out.at' 1 rfl
     have k2:wc.cell? ⟨w.heap.size,2,none⟩=some _:=R7.out.at' 2 rfl
     have k3:wc.cell? ⟨w.heap.size,3,none⟩=some _:=R7.out.at' 3 rfl
     have k4:wc.cell? ⟨w.heap.size,4,none⟩=some _:=R7.out.at' 4 rfl
     have k5:wc.cell? ⟨w.heap.size,5,none⟩=some _:=R7.out.at' 5 rfl
     have k6:wc.cell? ⟨w.heap.size,6,none⟩=some _:=R7.out.at' 6 rfl
     have k7:wc.cell? ⟨w.heap.size,7,none⟩=some _:=R7.out.at' 7 rfl
     have e5:=H7.out.n.row.at' 5 rfl
     have f5:=H7.out.n.row.fz 5
     have H8:=Lib.hid (H7.out.many (gs.length:Int))
     go_upto_region 9 with fail
     generalize wc.setCell ⟨g,5,none⟩ (.int .i64 (gs.length:Int))=W8 at H8 ⊢
     clear k0 k1 k2 k3 k4 k5 k6 k7 e5 f5 R7 H7
     have N8:=Lib.hid H8.out.n.row
     have R8:=Lib.hid H8.out.r
     have B8:=Lib.hid H8.out.b
     have m0:W8.cell? ⟨g,0,none⟩=some _:=N8.out.at' 0 rfl
     have m1:W8.cell? ⟨g,1,none⟩=some _:=N8.out.at' 1 rfl
     have m2:W8.cell? ⟨g,2,none⟩=some _:=N8.out.at' 2 rfl
     have m3:W8.cell? ⟨g,3,none⟩=some _:=N8.out.at' 3 rfl
     have m4:W8.cell? ⟨g,4,none⟩=some _:=N8.out.at' 4 rfl
     have m5:W8.cell? ⟨g,5,none⟩=some _:=N8.out.at' 5 rfl
     have HG:=Lib.hid (grow_new (base:=w.heap.size+1) (n:=⟨1,(⟨#[106,97,98,98,101,114,58,105,113,58,114,111,115,116,101,114]⟩:ByteArray),(⟨#[105,116,101,109]⟩:ByteArray),L,⟨#[]⟩,(gs.length:Int)⟩) (newA_own H8.out.o (Nat.le_refl _)) (own_le H8.out.o) H8.out.r.lt)
     have B9:Hid (Below (w.heap.size+1) W8 (W8.alloc (.cells #[.int .u8 1,.string (⟨#[106,97,98,98,101,114,58,105,113,58,114,111,115,116,101,114]⟩:ByteArray),.string (⟨#[105,116,101,109]⟩:ByteArray),.slice B7 L.length c7,.string ⟨#[]⟩,.int .i64 (gs.length:Int)] 36))):=Lib.hid ((Below.refl _ _).alloc H8.out.r.lt _)
     have hl8:=Lib.hid H8.out.r.lt
     dsimp only at HG
     go_wp2
     clear m0 m1 m2 m3 m4 m5 N8 H8
     go_loopw [6,7] (fun s6 s7 wr=>∃(k:Nat) (hs:List NodeH),k≤gs.length∧s7=.int .i64 k∧Hid (Below (w.heap.size+1) W8 wr)∧Hid (hs.map (·.1)=lt k)∧Hid (GrowT (w.heap.size+1) s6 wr hs)) (fun _ s7 _=>gs.length - (intOf s7).toNat)
     case atStart=>exact⟨0,[(⟨1,(⟨#[106,97,98,98,101,114,58,105,113,58,114,111,115,116,101,114]⟩:ByteArray),(⟨#[105,116,101,109]⟩:ByteArray),L,⟨#[]⟩,(gs.length:Int)⟩,B7,c7)],Nat.zero_le _,rfl,B9,Lib.hid HT2.out.symm,HG⟩
     case round=>
      obtain⟨k,hs,hk,rfl,HB,HM,HT⟩:=hrel
      obtain⟨A2,c2,rfl⟩:=own_form HT.out.1
      have RR:=Lib.hid (R8.out.extB HB.out (Nat.lt_succ_self _))
      have BW:=Lib.hid (B8.out.trans (HB.out.mono (Nat.le_succ _)))
      have q0:wr.cell? ⟨w.heap.size,0,none⟩=some _:=RR.out.at' 0 rfl
      have q1:wr.cell? ⟨w.heap.size,1,none⟩=some _:=RR.out.at' 1 rfl
      have q2:wr.cell? ⟨w.heap.size,2,none⟩=some _:=RR.out.at' 2 rfl
      have q3:wr.cell? ⟨w.heap.size,3,none⟩=some _:=RR.out.at' 3 rfl
      have q4:wr.cell? ⟨w.heap.size,4,none⟩=some _:=RR.out.at' 4 rfl
      have q5:wr.cell? ⟨w.heap.size,5,none⟩=some _:=RR.out.at' 5 rfl
      have q6:wr.cell? ⟨w.heap.size,6,none⟩=some _:=RR.out.at' 6 rfl
      have q7:wr.cell? ⟨w.heap.size,7,none⟩=some _:=RR.out.at' 7 rfl
      by_cases hlt:k < gs.length
      ·obtain⟨gg,hgg⟩:∃s,gs[k]? = some s:=⟨_,List.getElem?_eq_getElem hlt⟩
       have HTK:=Lib.hid (HTS.out k gg hgg)
       have HLN:Hid (hs.length≤3000):=Lib.hid (by have h1:=HTN.out k (by omega);rw [←HM.out,List.length_map] at h1;omega)
       obtain⟨b,off,rfl,hb,hcc⟩:=(HGR.out.ext BW.out) (by omega)
       have e0:=hcc k gg hgg
       have hszr:=Lib.hid (Nat.le_trans hl8.out HB.out.size)
       have HX:=Lib.hid ((Below.refl wr.heap.size wr).alloc (Nat.le_refl _) (.cells #[.int .u8 1,.string (⟨#[106,97,98,98,101,114,58,105,113,58,114,111,115,116,101,114]⟩:ByteArray),.string (⟨#[103,114,111,117,112]⟩:ByteArray),.slice none 0 0,.string ⟨#[]⟩,.int .i64 1,.int .u8 2,.string ⟨#[]⟩,.string ⟨#[]⟩,.slice none 0 0,.string gg,.int .i64 0] 36))
       have HRN:=Lib.hid (Rd.new wr 36 #[.int .u8 1,.string (⟨#[106,97,98,98,101,114,58,105,113,58,114,111,115,116,101,114]⟩:ByteArray),.string (⟨#[103,114,111,117,112]⟩:ByteArray),.slice none 0 0,.string ⟨#[]⟩,.int .i64 1,.int .u8 2,.string ⟨#[]⟩,.string ⟨#[]⟩,.slice none 0 0,.string gg,.int .i64 0] (s:=6) (n:=2) rfl)
       have T5:=Lib.hid (HT.out.ext HX.out)
       have HM4:=Lib.hid (HeldO.bare (base:=w.heap.size+1) (u:=.slice A2 hs.length c2) (w:=wr.alloc (.cells #[.int .u8 1,.string (⟨#[106,97,98,98,101,114,58,105,113,58,114,111,115,116,101,114]⟩:ByteArray),.string (⟨#[103,114,111,117,112]⟩:ByteArray),.slice none 0 0,.string ⟨#[]⟩,.int .i64 1,.int .u8 2,.string ⟨#[]⟩,.string ⟨#[]⟩,.slice none 0 0,.string gg,.int .i64 0] 36)) (gtree gg) (gtree_bare gg))
       clear hcc hgg
       go_wp2_with (at_builtin;refine app_nodes rfl _ _ rfl (w.heap.size+1) _ hs.length hs rfl T5.out.1 _ _ _ _ ((gtree gg).map fun n=>(n,none,0)) rfl HRN.out (by have h1:=HLN.out;omega) (by have:=hszr.out;simp;omega) ?_)
       intro v6 w6 hown6 hg6 hbk
       have T6:=Lib.hid (GrowT.app T5.out HM4.out hown6 hg6 (by simpa using hbk))
       have B6:Hid (Below (w.heap.size+1) W8 w6):=((HB.out.trans (HX.out.mono hszr.out))).grown hg6 (by have:=hl8.out;have:=HB.out.size;simp;omega) (fun q hq=>(HT.out.1.lt q hq).1)
       clear hown6 hg6 hbk q0 q1 q2 q3 q4 q5 q6 q7
       go_wp2
       go_roundw
       case rel=>exact⟨k+1,_,by omega,by go_num,B6,Lib.hid (by rw [HTK.out,List.map_append,HM.out,List.map_map];rw [show((fun x:NodeH=>x.1) ∘ fun n:NodeL=>((n,none,0):NodeH))=id from rfl,List.map_id]),T6⟩
       case measure=>simp [intOf];omega
      ·obtain rfl:k=gs.length:=by omega
       have HNV:=Lib.hid (HT.out.newV rfl)
       rw [HM.out,HTE.out] at HNV
       have HLE:=Lib.hid (own_le HT.out.1)
       have HEQ:Hid (hs.length=T.length):=Lib.hid (by rw [←HTE.out,←HM.out,List.length_map])
       rw [HEQ.out] at HLE
       go_wp2
       go_ret
       rw [HEQ.out]
       exact⟨A2,c2,rfl,HLE.out,HNV.out.mono (Nat.le_succ _),BW.out⟩
  ·have HTE:=Lib.hid (HTT.out.trans HT1.out)
   clear HT1 HTT HT2 HTA HTS HTN HWD HASK HGR
   have e3:=HI.out.n.row.at' 3 rfl
   go_wp2_with fail
   refine(with_any2 (w.heap.size+1) _ (attrs2 xj xn) (⟨#[115,117,98,115,99,114,105,112,116,105,111,110]⟩:ByteArray) (⟨#[114,101,109,111,118,101]⟩:ByteArray) _ HI.out.o HI.out.r.lt (Nat.le_trans L2.out (by decide))).mono ?_
   rintro e w3 ⟨u3,rfl,o3,b3,n3⟩
   obtain⟨A3,c3,rfl⟩:=own_form o3
   have N3:=HI.out.node n3
   have d3:=N3.row.at' 3 rfl
   have f3:=N3.row.fz 3
   have S4:=Lib.hid (HI.out.step o3 b3 n3)
   clear e3 o3 b3 n3 HI N3
   generalize withA (attrs2 xj xn) (⟨#[115,117,98,115,99,114,105,112,116,105,111,110]⟩:ByteArray) (⟨#[114,101,109,111,118,101]⟩:ByteArray)=L3 at HTE S4 ⊢
   go_upto_region 4 with fail
   generalize w3.setCell ⟨g,3,none⟩ (.slice A3 L3.length c3)=W4 at S4 ⊢
   have R4:=Lib.hid S4.out.n.row
   have k0:W4.cell? ⟨g,0,none⟩=some _:=R4.out.at' 0 rfl
   have k1:W4.cell? ⟨g,1,none⟩=some _:=R4.out.at' 1 rfl
   have k2:W4.cell? ⟨g,2,none⟩=some _:=R4.out.at' 2 rfl
   have k3:W4.cell? ⟨g,3,none⟩=some _:=R4.out.at' 3 rfl
   have k4:W4.cell? ⟨g,4,none⟩=some _:=R4.out.at' 4 rfl
   have k5:W4.cell? ⟨g,5,none⟩=some _:=R4.out.at' 5 rfl
   go_wp2
   go_ret
   rw [HTE.out]
   exact⟨some ⟨W4.heap.size,0,none⟩,1,rfl,Nat.le_refl _,newv_one (n:=⟨1,(⟨#[106,97,98,98,101,114,58,105,113,58,114,111,115,116,101,114]⟩:ByteArray),(⟨#[105,116,101,109]⟩:ByteArray),L3,⟨#[]⟩,0⟩) (newA_own S4.out.o (Nat.le_succ _)) (own_le S4.out.o) S4.out.b.size,S4.out.b.alloc S4.out.b.size _⟩
end Go.Proofs.YtnmnpnofdgdigaaGreatDoor
end
section
namespace Go.Proofs.YtnmnpnofdgdigaaGreatDoor
open Go.RowKit
set_option linter.unusedSimpArgs false
set_option linter.unusedVariables false
set_option maxHeartbeats 16000000 in
set_option maxRecDepth 10000 in
theorem refquery_of (l:List ItemL) (gone:Bool) (ver:Int) (A:Option Addr) (c:Nat) (w:World) (hz:SzL l) (hr:RdI w A l) (hc:l.length≤c) (h0:0≤ver) (h9:ver≤9007199254740991)
  (hit:∀x∈l,∀(B:Option Addr) (cb:Nat) (W:World),RdS W B x.groups→x.groups.length≤cb→Calls Tryz.prog 128 #[encT x B cb,.bool gone] W (TwinPost (itemT gone x) W)) :
  Calls Tryz.prog 69 #[.slice A l.length c,.bool gone,.int .i64 ver] w (TwinPost (queryV l gone ver) w):=by
 obtain⟨n,rfl⟩:=Int.eq_ofNat_of_zero_le h0
 have HD:=Lib.hid (digits_any n w (by omega))
 have HQL:=Lib.hid (@laidQ_len l gone (n:Int) hz)
 have HQS:=Lib.hid (fun i x (h:l[i]? = some x)=>laidQ_succ (gone:=gone) (ver:=(n:Int)) h)
 have HQA:=Lib.hid (laidQ_all l gone (n:Int))
 have HQ0:Hid (laidQ l gone (n:Int) 0=[⟨1,rosN,(⟨#[113,117,101,114,121]⟩:ByteArray),[⟨emB,(⟨#[118,101,114]⟩:ByteArray),digS n⟩],emB,(l.length:Int)⟩]):=Lib.hid (by unfold laidQ;rw [Int.toNat_natCast];simp)
 have HIT2:=Lib.hid hit
 have HTL:=Lib.hid (fun x (hx:x∈l)=>(show(itemT gone x).length≤2001 by have h2:=itemT_len gone x;have h3:=(hz.2 _ hx).2.2.1;omega))
 have HR:=Lib.hid hr
 have hln:=hz.1
 clear hz hr hit h0 h9
 unfold TwinPost
 unfold TwinPost at HIT2
 rw [←HQA.out]
 clear HQA
 generalize laidQ l gone (n:Int)=qt at *
 generalize itemT gone=tt at *
 generalize digS n=dv at *
 go_enter Tryz.func69,Tryz.ntmps69
 go_wp2_with fail
 refine HD.out.mono ?_
 rintro e w1 ⟨rfl,hb1⟩
 have X1:=Lib.hid hb1
 have G1:=Lib.hid (grow_new (base:=w.heap.size) (n:=⟨1,(⟨#[106,97,98,98,101,114,58,105,113,58,114,111,115,116,101,114]⟩:ByteArray),(⟨#[113,117,101,114,121]⟩:ByteArray),[⟨emB,(⟨#[118,101,114]⟩:ByteArray),dv⟩],emB,(l.length:Int)⟩) (c:=1) (newA_one (base:=w.heap.size) (g:=(w1.alloc (.cells #[.string emB,.string (⟨#[118,101,114]⟩:ByteArray),.string dv] 75)).heap.size) (w:=w1) ⟨emB,(⟨#[118,101,114]⟩:ByteArray),dv⟩ hb1.size (by simp)) (Nat.le_refl _) (by have:=hb1.size;simp;omega))
 unfold emB at G1
 dsimp only [List.length_cons,List.length_nil] at G1
 rw [show ∀o,(w1.alloc o).heap.size=w1.heap.size+1 from fun o=>by simp] at G1
 have B1:Hid (Below w.heap.size w ((w1.alloc (.cells #[.string ⟨#[]⟩,.string (⟨#[118,101,114]⟩:ByteArray),.string dv] 75)).alloc (.cells #[.int .u8 1,.string (⟨#[106,97,98,98,101,114,58,105,113,58,114,111,115,116,101,114]⟩:ByteArray),.string (⟨#[113,117,101,114,121]⟩:ByteArray),.slice (some ⟨w1.heap.size,0,none⟩) 1 1,.string ⟨#[]⟩,.int .i64 (l.length:Int)] 36))):=(hb1.alloc hb1.size _).alloc (by have:=hb1.size;simp;omega) _
 clear hb1 HD
 go_wp2
 go_loopw [7,8] (fun s7 s8 wr=>∃(k:Nat) (hs:List NodeH),k≤l.length∧s8=.int .i64 k∧Hid (Below w.heap.size w wr)∧Hid (hs.map (·.1)=qt k)∧Hid (GrowT w.heap.size s7 wr hs)) (fun _ s8 _=>l.length - (intOf s8).toNat)
 case atStart=>exact⟨0,_,Nat.zero_le _,rfl,B1,Lib.hid (by rw [HQ0.out];rfl),G1⟩
 case round=>
  obtain⟨k,hs,hk,rfl,HB,HM,HT⟩:=hrel
  obtain⟨A2,c2,rfl⟩:=own_form HT.out.1
  have hszr:=HB.out.size
  by_cases hlt:k < l.length
  ·obtain⟨x,hx⟩:∃x,l[k]? = some x:=⟨_,List.getElem?_eq_getElem hlt⟩
   have hxm:x∈l:=List.mem_of_getElem? hx
   have HTK:=Lib.hid (HQS.out k x hx)
   have HLN:Hid (hs.length≤3000000):=Lib.hid (by have h1:=HQL.out k (by omega);rw [←HM.out,List.length_map] at h1;omega)
   have HTX:=Lib.hid (HTL.out x hxm)
   obtain⟨b,off,rfl,hb,hcc⟩:=(HR.out.ext HB.out) (by omega)
   obtain⟨A',c',hcell,hl',hA'⟩:=hcc k x hx
   have d0:=hcell 0 _ rfl
   have d1:=hcell 1 _ rfl
   have d2:=hcell 2 _ rfl
   have d3:=hcell 3 _ rfl
   have d4:=hcell 4 _ rfl
   have d5:=hcell 5 _ rfl
   have d6:=hcell 6 _ rfl
   have d7:=hcell 7 _ rfl
   rw [Nat.add_zero] at d0
   dsimp only [cI] at d0 d1 d2 d3 d4 d5 d6 d7
   have HIT:=Lib.hid (HIT2.out x hxm A' c' wr hA' hl')
   unfold encT at HIT
   unfold cI at HIT
   clear hcell hcc hA' hx
   generalize tt x=G at *
   go_wp2_with fail
   refine HIT.out.mono ?_
   rintro e w5 ⟨A5,c5,rfl,hl5,hn5,hb5⟩
   clear d0 d1 d2 d3 d4 d5 d6 d7
   have B5:=Lib.hid (HB.out.trans (hb5.mono hszr))
   have T5:=Lib.hid (HT.out.ext hb5)
   have hs5:=B5.out.size
   obtain⟨m,hm1,hm2,hm3,hm4⟩:=hn5.held (u:=.slice A2 hs.length c2) hszr (fun g hg=>(HT.out.1.lt g hg).2)
   have HM1:=Lib.hid hm1
   have HM2:=Lib.hid hm2
   have HM3:=Lib.hid hm3
   have HM4:=Lib.hid hm4
   clear hm1 hm2 hm3 hm4 hn5 hb5 hl5 HIT
   go_wp2_with (at_builtin;refine app_nodes rfl _ _ rfl w.heap.size _ hs.length hs rfl T5.out.1 _ _ _ _ m rfl HM3.out (by have h1:=HLN.out;have h2:=HTX.out;omega) (by omega) ?_)
   intro v6 w6 hown6 hg6 hbk
   have T6:=Lib.hid (GrowT.app T5.out HM4.out (by rw [HM2.out];exact hown6) hg6 hbk)
   have B6:Hid (Below w.heap.size w w6):=B5.out.grown hg6 (by omega) (fun q hq=>(HT.out.1.lt q hq).1)
   clear hown6 hg6 hbk
   go_wp2
   go_roundw
   case rel=>exact⟨k+1,hs++m,by omega,by go_num,B6,Lib.hid (by rw [HTK.out,List.map_append,HM.out,HM1.out]),T6⟩
   case measure=>simp [intOf];omega
  ·obtain rfl:k=l.length:=by omega
   have HNV:=Lib.hid (HT.out.newV rfl)
   rw [HM.out] at HNV
   have HLE:=Lib.hid (own_le HT.out.1)
   have HEQ:Hid (hs.length=(qt l.length).length):=Lib.hid (by rw [←HM.out,List.length_map])
   rw [HEQ.out] at HLE
   go_wp2
   go_ret
   rw [HEQ.out]
   exact⟨A2,c2,rfl,HLE.out,HNV.out,HB.out⟩
end Go.Proofs.YtnmnpnofdgdigaaGreatDoor
end
section
namespace Go.Proofs.YtnmnpnofdgdigaaGreatDoor
open Go.RowKit
set_option linter.unusedSimpArgs false
set_option linter.unusedVariables false
theorem rosV_szv {l:List ItemL} (hz:SzL l) (gone:Bool) (ver:Int):SzV 1000000000 (rosV l gone ver):=by
 unfold rosV
 split
 ·rename_i he
  have hi:rosI l=true:=by
   unfold rosE at he
   split at he
   ·rename_i h
    simp only [Bool.and_eq_true] at h
    exact h.1.2
   ·omega
  have hl:=laidQ_len gone ver hz l.length (Nat.le_refl _)
  rw [laidQ_all] at hl
  have h1:=hz.1
  exact⟨by omega,joinV_sz (queryN_sz ver) (items_szw hz hi gone).1 (fun v hv=>((items_szw hz hi gone).2 v hv).2)⟩
 ·exact⟨Nat.zero_le _,fun n hn=>by cases hn⟩
set_option maxHeartbeats 16000000 in
set_option maxRecDepth 10000 in
theorem stanzarosters_walk (l:List ItemL) (rv:Int) (gone:Bool) (ver:Int) (A:Option Addr) (c:Nat) (w:World) (hr:RdI w A l) (hc:l.length≤c) (hg:Glb w) (hp:Pow w) :
  Calls Tryz.prog 5 #[.agg #[.slice A l.length c,.int .i64 rv],.bool gone,.int .i64 ver] w fun e w'=>e=.returned (.bool true)∧Below w.heap.size w w':=by
 obtain⟨W0,hW0⟩:∃W0,W0=w.alloc (.cells #[.slice A l.length c,.int .i64 rv] 67):=⟨_,rfl⟩
 have hX0:Below w.heap.size w W0:=by rw [hW0];exact(Below.refl _ _).alloc (Nat.le_refl _) _
 have R0:Hid (Row W0 w.heap.size #[.slice A l.length c,.int .i64 rv]):=Lib.hid (by rw [hW0];exact Row.new w _ _)
 have HG:=Lib.hid (refgreat21_any l rv A c W0 (hr.ext hX0) hc)
 unfold GreatK at HG
 have HR:=Lib.hid hr
 have HL:=Lib.hid hg
 have HP:=Lib.hid hp
 have X0:=Lib.hid hX0
 have HW0:=Lib.hid hW0
 clear hX0 hW0 hr hg hp
 go_enter Tryz.func5,Tryz.ntmps5
 go_upto_region 1 with fail
 rw [←HW0.out]
 clear HW0
 have k0:W0.cell? ⟨w.heap.size,0,none⟩=some _:=R0.out.at' 0 rfl
 have k1:W0.cell? ⟨w.heap.size,1,none⟩=some _:=R0.out.at' 1 rfl
 go_wp2_with fail
 refine HG.out.mono ?_
 rintro e w1 ⟨g,rfl,hb1,hsm⟩
 have X1:=Lib.hid (X0.out.trans (hb1.mono X0.out.size))
 have R1:=Lib.hid (R0.out.ext hb1)
 have HSM:=Lib.hid hsm
 clear hb1 k0 k1 R0 HG X0 hsm
 cases g with
 | true=>
  clear R1
  go_wp2
  go_ret
  exact⟨rfl,X1.out⟩
 | false=>
  have hz:=(HSM.out rfl).szl
  have HT:=Lib.hid (reftwin21_any l rv A c w1 hz (HR.out.ext X1.out) hc)
  unfold TwinRPost at HT
  have HZ:=Lib.hid hz
  have HS:=Lib.hid (fun B cb W (hb:Below w.heap.size w W) (h1:RdI W B l) (h2:l.length≤cb)=>sroster_any l gone ver B cb W hz h1 h2 (HL.out.below hb) (HP.out.below hb))
  have HF:=Lib.hid (fun W (hb:Below w.heap.size w W)=>refroster_of l gone ver A c W hz (HR.out.ext hb) hc (fun hi h0 h9 W2 hb2=>refquery_of l gone ver A c W2 hz ((HR.out.ext hb).ext hb2) hc h0 h9 (fun x hx B cb W3 h1 h2=>refitem22_any x gone B cb W3 (hz.2 x hx) h1 h2)))
  have HRZ:=Lib.hid (rosV_szv hz gone ver)
  unfold RosPost at HS HF
  clear hz HSM
  generalize rosV l gone ver=V at *
  generalize rosE l gone ver=E at *
  have k0:w1.cell? ⟨w.heap.size,0,none⟩=some _:=R1.out.at' 0 rfl
  have k1:w1.cell? ⟨w.heap.size,1,none⟩=some _:=R1.out.at' 1 rfl
  go_wp2_with fail
  refine HT.out.mono ?_
  rintro e w2 ⟨A2,c2,rfl,hc2,hr2,hb2⟩
  clear k0 k1 HT
  obtain⟨W3,hW3⟩:∃W3,W3=w2.alloc (.cells #[.slice A2 l.length c2,.int .i64 rv] 67):=⟨_,rfl⟩
  have hX3:Below w2.heap.size w2 W3:=by rw [hW3];exact(Below.refl _ _).alloc (Nat.le_refl _) _
  have X2:=Lib.hid (X1.out.trans (hb2.mono X1.out.size))
  have X3:=Lib.hid (X2.out.trans (hX3.mono X2.out.size))
  have R3:=Lib.hid ((R1.out.ext hb2).ext hX3)
  have O3:Hid (Row W3 w2.heap.size #[.slice A2 l.length c2,.int .i64 rv]):=Lib.hid (by rw [hW3];exact Row.new w2 _ _)
  have RO3:=Lib.hid (hr2.ext hX3)
  have HS3:=Lib.hid (HS.out A2 c2 W3 X3.out RO3.out hc2)
  have HW3:=Lib.hid hW3
  clear hW3 hX3 hb2 hr2 R1 X1 HS
  go_upto_region 4 with fail
  rw [←HW3.out]
  clear HW3
  have o0:W3.cell? ⟨w2.heap.size,0,none⟩=some _:=O3.out.at' 0 rfl
  have o1:W3.cell? ⟨w2.heap.size,1,none⟩=some _:=O3.out.at' 1 rfl
  go_wp2_with fail
  refine HS3.out.mono ?_
  rintro e w4 ⟨A4,c4,rfl,hl4,hn4,hb4⟩
  have X4:=Lib.hid (X3.out.trans (hb4.mono X3.out.size))
  have R4:=Lib.hid (R3.out.ext hb4)
  have O4:=Lib.hid (O3.out.ext hb4)
  have RO4:=Lib.hid (RO3.out.ext hb4)
  have HF4:=Lib.hid (HF.out w4 X4.out)
  have V4:=Lib.hid hn4
  clear hb4 hn4 o0 o1 HS3 HF X3 R3 O3 RO3
  have k0:w4.cell? ⟨w.heap.size,0,none⟩=some _:=R4.out.at' 0 rfl
  have k1:w4.cell? ⟨w.heap.size,1,none⟩=some _:=R4.out.at' 1 rfl
  go_wp2_with fail
  refine HF4.out.mono ?_
  rintro e w5 ⟨A5,c5,rfl,hl5,hn5,hb5⟩
  have X5:=Lib.hid (X4.out.trans (hb5.mono X4.out.size))
  have R5:=Lib.hid (R4.out.ext hb5)
  have O5:=Lib.hid (O4.out.ext hb5)
  have RO5:=Lib.hid (RO4.out.ext hb5)
  have HSA:=Lib.hid (same_one V A4 A5 c4 c5 w5 (V4.out.ext hb5).rdv hn5.rdv HRZ.out)
  clear hb5 hn5 k0 k1 HF4 X4 R4 O4 RO4 V4
  go_wp2_with fail
  refine HSA.out.mono ?_
  rintro e w6 ⟨rfl,hb6⟩
  have X6:=Lib.hid (X5.out.trans (hb6.mono X5.out.size))
  have R6:=Lib.hid (R5.out.ext hb6)
  have O6:=Lib.hid (O5.out.ext hb6)
  have HSR:=Lib.hid (same21_one l rv A2 A c2 c w6 HZ.out (RO5.out.ext hb6) (HR.out.ext X6.out))
  clear hb6 HSA X5 R5 O5 RO5
  have k0:w6.cell? ⟨w.heap.size,0,none⟩=some _:=R6.out.at' 0 rfl
  have k1:w6.cell? ⟨w.heap.size,1,none⟩=some _:=R6.out.at' 1 rfl
  have o0:w6.cell? ⟨w2.heap.size,0,none⟩=some _:=O6.out.at' 0 rfl
  have o1:w6.cell? ⟨w2.heap.size,1,none⟩=some _:=O6.out.at' 1 rfl
  go_wp2_with fail
  refine HSR.out.mono ?_
  rintro e w7 ⟨rfl,hb7⟩
  have X7:=Lib.hid (X6.out.trans (hb7.mono X6.out.size))
  clear hb7 k0 k1 o0 o1 R6 O6 X6 HSR
  go_wp2
  go_ret
  exact⟨rfl,X7.out⟩
end Go.Proofs.YtnmnpnofdgdigaaGreatDoor
end
section
namespace Go.Proofs.YtnmnpnofdgdigaaGreatDoor
open Go.Joins Go.ChangeShapes Go.WideShapes Go.RowKit Go.Deep
set_option linter.unusedSimpArgs false
set_option linter.unusedVariables false
section
variable {H:Type} {enc:TypeId×Value→H} {W:World} {base:Nat} {spare:Nat→Bool} {held:Bool} {fuel:Nat} {cs:List Value} {x:DataW H×List MemPlace}
theorem open_strs (h:DataW.trod enc Tryz.prog W base spare held fuel 50 cs=some x):∃(A:Option Addr) (l:List ByteArray) (c:Nat),cs=[.slice A l.length c]∧l.length≤c∧RdS W A l:=by
 rcases open_slice Tryz.underlying50 h with h0|⟨a,len,cap,m,n,D,Pl,hcs,hb,hl,hm,hmm,hx,hi⟩
 ·exact⟨none,[],0,h0.1,Nat.le_refl _,fun h=>absurd h (by simp)⟩
 ·obtain⟨l,rfl,hp⟩:=list_of (P:=fun i (x:ByteArray)=>W.cell? (a.add i)=some (.string x)) len fun i hil=>by
   obtain⟨cs',hc,ht'⟩:=hi i (by rw [hmm];split <;> omega)
   obtain⟨s,rfl,_,_⟩:=DataW.trod_string Tryz.underlying9 ht'
   rw [show Tryz.prog.cellsOf 9=1 by kernel_rfl,Nat.mul_one] at hc
   obtain⟨_,hcl,hat⟩:=World.cells?_some hc
   have h0:=hat 0 (by omega)
   have e:(a.add i).add 0=a.add i:=by simp [Addr.add]
   rw [e] at h0
   exact⟨s,h0⟩
  refine⟨some a,l,cap,hcs,hl,fun h0=>?_⟩
  obtain⟨b,off,rfl,hb'⟩:=addr_of (hp 0 l[0] (List.getElem?_eq_getElem h0))
  exact⟨b,off,rfl,hb',fun i s hs=>by simpa only [add_mk] using hp i s hs⟩
set_option maxRecDepth 100000 in
theorem open_four {t:TypeId} {f0 f1 f2 f3:Field} (hs:Tryz.prog.underlying t=some (.struct #[f0,f1,f2,f3])) (o0:f0.offset=0) (o1:f1.offset=1) (o2:f2.offset=2) (o3:f3.offset=3)
  (k0:Tryz.prog.cellsOf f0.type=1) (k1:Tryz.prog.cellsOf f1.type=1) (k2:Tryz.prog.cellsOf f2.type=1) (k3:Tryz.prog.cellsOf f3.type=1) (hC:Tryz.prog.cellsOf t=4) (h:DataW.trod enc Tryz.prog W base spare held fuel t cs=some x) :
  ∃(v0 v1 v2 v3:Value) (y0 y1 y2 y3:DataW H×List MemPlace) (n:Nat),cs=[v0,v1,v2,v3]∧DataW.trod enc Tryz.prog W base spare held n f0.type [v0]=some y0∧DataW.trod enc Tryz.prog W base spare held n f1.type [v1]=some y1∧DataW.trod enc Tryz.prog W base spare held n f2.type [v2]=some y2∧DataW.trod enc Tryz.prog W base spare held n f3.type [v3]=some y3:=by
 obtain⟨xs,n,_,hx,hsz,hlen,hg⟩:=DataW.trod_struct hs h
 match cs,hsz.trans hC with
 | [c0,c1,c2,c3],_=>
  match xs,hlen with
  | [y0,y1,y2,y3],_=>exact⟨c0,c1,c2,c3,y0,y1,y2,y3,n,rfl,by simpa [o0,k0] using hg 0 f0 rfl,by simpa [o1,k1] using hg 1 f1 rfl,by simpa [o2,k2] using hg 2 f2 rfl,by simpa [o3,k3] using hg 3 f3 rfl⟩
set_option maxRecDepth 100000 in
theorem open_eight {t:TypeId} {f0 f1 f2 f3 f4:Field} (hs:Tryz.prog.underlying t=some (.struct #[f0,f1,f2,f3,f4])) (o0:f0.offset=0) (o1:f1.offset=1) (o2:f2.offset=2) (o3:f3.offset=3) (o4:f4.offset=7)
  (k0:Tryz.prog.cellsOf f0.type=1) (k1:Tryz.prog.cellsOf f1.type=1) (k2:Tryz.prog.cellsOf f2.type=1) (k3:Tryz.prog.cellsOf f3.type=4) (k4:Tryz.prog.cellsOf f4.type=1) (hC:Tryz.prog.cellsOf t=8) (h:DataW.trod enc Tryz.prog W base spare held fuel t cs=some x) :
  ∃(v0 v1 v2 v3 v4 v5 v6 v7:Value) (y0 y1 y2 y3 y4:DataW H×List MemPlace) (n:Nat),cs=[v0,v1,v2,v3,v4,v5,v6,v7]∧DataW.trod enc Tryz.prog W base spare held n f0.type [v0]=some y0∧DataW.trod enc Tryz.prog W base spare held n f1.type [v1]=some y1∧DataW.trod enc Tryz.prog W base spare held n f2.type [v2]=some y2∧DataW.trod enc Tryz.prog W base spare held n f3.type [v3,v4,v5,v6]=some y3∧DataW.trod enc Tryz.prog W base spare held n f4.type [v7]=some y4:=by
 obtain⟨xs,n,_,hx,hsz,hlen,hg⟩:=DataW.trod_struct hs h
 match cs,hsz.trans hC with
 | [c0,c1,c2,c3,c4,c5,c6,c7],_=>
  match xs,hlen with
  | [y0,y1,y2,y3,y4],_=>exact⟨c0,c1,c2,c3,c4,c5,c6,c7,y0,y1,y2,y3,y4,n,rfl,by simpa [o0,k0] using hg 0 f0 rfl,by simpa [o1,k1] using hg 1 f1 rfl,by simpa [o2,k2] using hg 2 f2 rfl,by simpa [o3,k3] using hg 3 f3 rfl,by simpa [o4,k4] using hg 4 f4 rfl⟩
set_option maxRecDepth 100000 in
theorem open_item (h:DataW.trod enc Tryz.prog W base spare held fuel 54 cs=some x):∃(t:ItemL) (A:Option Addr) (c:Nat),cs=(cI t A c).toList∧t.groups.length≤c∧RdS W A t.groups:=by
 obtain⟨v0,v1,v2,v3,v4,v5,v6,v7,y0,y1,y2,y3,y4,n,rfl,t0,t1,t2,t3,t4⟩:=open_eight Tryz.underlying54 rfl rfl rfl rfl rfl (by kernel_rfl) (by kernel_rfl) (by kernel_rfl) (by kernel_rfl) (by kernel_rfl) (by kernel_rfl) h
 obtain⟨u0,u1,u2,u3,z0,z1,z2,z3,n',e,s0,s1,s2,s3⟩:=open_four Tryz.underlying52 rfl rfl rfl rfl (by kernel_rfl) (by kernel_rfl) (by kernel_rfl) (by kernel_rfl) (by kernel_rfl) t3
 obtain⟨j,e0,_,_⟩:=DataW.trod_string Tryz.underlying9 t0
 obtain⟨nm,e1,_,_⟩:=DataW.trod_string Tryz.underlying9 t1
 obtain⟨A,l,c,e2,q1,q2⟩:=open_strs t2
 obtain⟨b0,r0,_⟩:=DataW.trod_bool Tryz.underlying4 s0
 obtain⟨b1,r1,_⟩:=DataW.trod_bool Tryz.underlying4 s1
 obtain⟨b2,r2,_⟩:=DataW.trod_bool Tryz.underlying4 s2
 obtain⟨b3,r3,_⟩:=DataW.trod_bool Tryz.underlying4 s3
 obtain⟨b4,r4,_⟩:=DataW.trod_bool Tryz.underlying4 t4
 simp only [List.cons.injEq,and_true] at e e0 e1 e2 r0 r1 r2 r3 r4
 obtain⟨rfl,rfl,rfl,rfl⟩:=e
 subst e0 e1 e2 r0 r1 r2 r3 r4
 exact⟨⟨j,nm,l,b0,b1,b2,b3,b4⟩,A,c,rfl,q1,q2⟩
theorem open_items (h:DataW.trod enc Tryz.prog W base spare held fuel 65 cs=some x):∃(A:Option Addr) (l:List ItemL) (c:Nat),cs=[.slice A l.length c]∧l.length≤c∧RdI W A l:=by
 rcases open_slice Tryz.underlying65 h with h0|⟨a,len,cap,m,n,D,Pl,hcs,hb,hl,hm,hmm,hx,hi⟩
 ·exact⟨none,[],0,h0.1,Nat.le_refl _,fun h=>absurd h (by simp)⟩
 ·obtain⟨l,rfl,hp⟩:=list_of (P:=fun i (x:ItemL)=>∃A c,(∀r v,(cI x A c)[r]? = some v→W.cell? (a.add (i*8+r))=some v)∧x.groups.length≤c∧RdS W A x.groups) len fun i hil=>by
   obtain⟨cs',hc,ht'⟩:=hi i (by rw [hmm];split <;> omega)
   obtain⟨t,A,c,rfl,q1,q2⟩:=open_item ht'
   rw [show Tryz.prog.cellsOf 54=8 by kernel_rfl] at hc
   obtain⟨_,hcl,hat⟩:=World.cells?_some hc
   refine⟨t,A,c,fun r v hv=>?_,q1,q2⟩
   have hr:r < 8:=(Array.getElem?_eq_some_iff.1 hv).1
   have h1:=hat r hr
   rw [Go.Deep.add_add] at h1
   rw [h1,Array.getElem?_toList]
   exact hv
  refine⟨some a,l,cap,hcs,hl,fun h0=>?_⟩
  obtain⟨A,c,h1,_⟩:=hp 0 l[0] (List.getElem?_eq_getElem h0)
  obtain⟨b,off,rfl,hb'⟩:=addr_of (by simpa using h1 0 _ rfl)
  refine⟨b,off,rfl,hb',fun i s hs=>?_⟩
  obtain⟨A,c,h1,q1,q2⟩:=hp i s hs
  exact⟨A,c,fun r v hv=>by simpa only [add_mk,Nat.add_assoc] using h1 r v hv,q1,q2⟩
set_option maxRecDepth 100000 in
theorem open_agg2 {r:Reach} {b0:Nat} {t:TypeId} {f0 f1:Field} {v:Value} {d:DataW H} {p:List MemPlace} (hs:Tryz.prog.underlying t=some (.struct #[f0,f1])) (o0:f0.offset=0) (o1:f1.offset=1) (k0:Tryz.prog.cellsOf f0.type=1) (k1:Tryz.prog.cellsOf f1.type=1) (hC:Tryz.prog.cellsOf t=2)
  (hv:Value.okWide Tryz.prog W r b0 t v) (h:DataW.Trod enc Tryz.prog W base spare held t v d p) :
  ∃(v0 v1:Value) (y0 y1:DataW H×List MemPlace) (n:Nat),v=.agg #[v0,v1]∧DataW.trod enc Tryz.prog W base spare held n f0.type [v0]=some y0∧DataW.trod enc Tryz.prog W base spare held n f1.type [v1]=some y1:=by
 obtain⟨cs,rfl,hsz⟩:=okWide_struct hs hv
 obtain⟨l⟩:=cs
 match l,hsz.trans hC with
 | [c0,c1],_=>
  obtain⟨fuel,hf⟩:=h
  obtain⟨xs,n,_,hx,_,hlen,hg⟩:=DataW.trod_struct hs hf
  match xs,hlen with
  | [y0,y1],_=>exact⟨c0,c1,y0,y1,n,rfl,by simpa [Value.cells,o0,k0] using hg 0 f0 rfl,by simpa [Value.cells,o1,k1] using hg 1 f1 rfl⟩
set_option maxRecDepth 100000 in
theorem open_roster {r:Reach} {b0:Nat} {v:Value} {d:DataW H} {p:List MemPlace} (hv:Value.okWide Tryz.prog W r b0 67 v) (h:DataW.Trod enc Tryz.prog W base spare held 67 v d p) :
  ∃(A:Option Addr) (l:List ItemL) (c:Nat) (k:Int),v=.agg #[.slice A l.length c,.int .i64 k]∧l.length≤c∧RdI W A l:=by
 obtain⟨v0,v1,y0,y1,n,rfl,t0,t1⟩:=open_agg2 Tryz.underlying67 rfl rfl (by kernel_rfl) (by kernel_rfl) (by kernel_rfl) hv h
 obtain⟨A,l,c,e,q1,q2⟩:=open_items t0
 obtain⟨k,e1,_,_⟩:=DataW.trod_int Tryz.underlying3 t1
 simp only [List.cons.injEq,and_true] at e e1
 subst e e1
 exact⟨A,l,c,k,rfl,q1,q2⟩
end
end Go.Proofs.YtnmnpnofdgdigaaGreatDoor
end
