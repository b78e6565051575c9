/- The statement of 'StanzaTells' (the second form, its tied card): for every input whose bulk is at most 1048576 the law returns true, and each argument reads behind the call as it read before. Its conditions: that bound, and what the given row lists. -/
import Derived.Test.YtnmnpnofdgdigaaGreatDoorZ23
import Derived.Test.YtnmnpnofdgdigaaGreatDoorZ20
import Derived.Test.YtnmnpnofdgdigaaGreatDoorRows
import Derived.Lib.SmallJoins
import Derived.Test.YtnmnpnofdgdigaaGreatDoorZ01
import Derived.Test.YtnmnpnofdgdigaaGreatDoorZ40
import Derived.WalkKit
import Derived.ProofKit
import Derived.OpenShut
import Derived.ShutString
import Derived.ChangeOld
import Derived.Below
import Derived.Deep.DeepHandedRow
import Derived.Deep.DeepWitnessRowRef
import Derived.SizedLaws
import Derived.Shelf.LaysM
import Derived.Lib.LaidIn
import Derived.Lib.LaidU8
import Derived.Lib.DecodeN
import Derived.JoinedCond
import Derived.Test.YtnmnpnofdgdigaaGreatDoorCards
import Derived.Test.YtnmnpnofdgdigaaGreatDoorTie
import Derived.SevenTiedAt
set_option linter.all false
section
namespace Go.Proofs.YtnmnpnofdgdigaaGreatDoor
open Go.Joins Go.ChangeShapes Go.WideShapes Go.RowKit Go.Deep
set_option linter.unusedSimpArgs false
set_option linter.unusedVariables false
section
variable {H:Type}
theorem bulk_one (d:DataW H):1≤Rows.uptoBulk d:=by
 cases d with
 | lit l=>cases l <;> simp [Rows.uptoBulk]
 | _=>simp [Rows.uptoBulk]
theorem bulk_part {d:DataW H}:∀{l:List (DataW H)},d∈l→Rows.uptoBulk d≤Rows.uptoBulkAll l
 | x :: r,h=>by
  simp only [Rows.uptoBulkAll]
  rcases List.mem_cons.1 h with e|e
  ·subst e;omega
  ·have:=bulk_part e;omega
theorem bulk_len:∀(l:List (DataW H)),l.length≤Rows.uptoBulkAll l
 | []=>by simp [Rows.uptoBulkAll]
 | x :: r=>by have:=bulk_one x;have:=bulk_len r;simp only [Rows.uptoBulkAll,List.length_cons];omega
theorem bulk_agg {xs:List (DataW H×List MemPlace)} {y:DataW H×List MemPlace} {j:Nat} (h:xs[j]? = some y):Rows.uptoBulk y.1≤Rows.uptoBulk (.agg (xs.map (·.1))):=by
 have:=bulk_part (List.mem_map.2 ⟨y,List.mem_of_getElem? h,rfl⟩:y.1∈xs.map (·.1))
 simp only [Rows.uptoBulk]
 omega
theorem bulk_str {s:ByteArray} {M:Nat} (h:Rows.uptoBulk (DataW.lit (H:=H) (.string s.data.toList))≤M):s.size≤M:=by
 have:s.data.toList.length=s.size:=rfl
 simp only [Rows.uptoBulk] at h
 omega
end
section
variable {H:Type} {enc:TypeId×Value→H} {W:World} {base:Nat} {spare:Nat→Bool} {held:Bool} {M:Nat}
theorem open_sliceM {t e:TypeId} {fuel:Nat} {cs:List Value} {x:DataW H×List MemPlace} (ht:Tryz.prog.underlying t=some (.slice e)) (h:DataW.trod enc Tryz.prog W base spare held fuel t cs=some x) (hM:Rows.uptoBulk x.1≤M) :
  cs=[.slice none 0 0]∨∃(a:Addr) (len cap n:Nat),cs=[.slice (some a) len cap]∧len≤cap∧len≤M∧
   ∀i,i < len→∃cs' D Pl,W.cells? base (a.add (i*Tryz.prog.cellsOf e)) (Tryz.prog.cellsOf e)=some cs'∧DataW.trod enc Tryz.prog W base spare held n e cs'=some (D,Pl)∧Rows.uptoBulk D≤M:=by
 rcases open_slice ht h with h0|⟨a,len,cap,m,n,D,Pl,hcs,hb,hl,hm,hmm,hx,hi⟩
 ·exact .inl h0.1
 ·have hxa:x.1=.slice ((List.range len).map D) ((List.range (m - len)).map fun j=>D (len+j)):=by rw [hx]
  rw [hxa] at hM
  simp only [Rows.uptoBulk] at hM
  have hlen:=bulk_len ((List.range len).map D)
  rw [List.length_map,List.length_range] at hlen
  refine .inr ⟨a,len,cap,n,hcs,hl,by omega,fun i him=>?_⟩
  have him':i < m:=by rw [hmm];split <;> omega
  obtain⟨cs',h1,h2⟩:=hi i him'
  have:=bulk_part (List.mem_map.2 ⟨i,List.mem_range.2 him,rfl⟩:D i∈(List.range len).map D)
  exact⟨cs',D i,Pl i,h1,h2,by omega⟩
theorem open_fieldsM {t e:TypeId} {fs:Array Field} {fuel:Nat} {cs:List Value} {x:DataW H×List MemPlace} (ht:Tryz.prog.underlying t=some (.slice e)) (he:Tryz.prog.underlying e=some (.struct fs))
  (hone:oneCellFields Tryz.prog fs=true) (hC:Tryz.prog.cellsOf e=fs.size) (h:DataW.trod enc Tryz.prog W base spare held fuel t cs=some x) (hM:Rows.uptoBulk x.1≤M) :
  cs=[.slice none 0 0]∨
  ∃(a:Addr) (len cap:Nat),cs=[.slice (some a) len cap]∧len≤cap∧len≤M∧
   ∀i,i < len→∃n:Nat,∀(j:Nat) (f:Field),fs[j]? = some f→∃(v:Value) (y:DataW H×List MemPlace),W.cell? (a.add (i*fs.size+j))=some v∧DataW.trod enc Tryz.prog W base spare held n f.type [v]=some y∧Rows.uptoBulk y.1≤M:=by
 rcases open_sliceM ht h hM with h0|⟨a,len,cap,n,hcs,hl,hm,hi⟩
 ·exact .inl h0
 ·refine .inr ⟨a,len,cap,hcs,hl,hm,fun i him=>?_⟩
  obtain⟨cs',D,Pl,hc,ht',hD⟩:=hi i him
  rw [hC] at hc
  obtain⟨ys,n',hn',hy,hlen,hyl,hf⟩:=DataW.trod_struct he ht'
  obtain⟨_,hcl,hat⟩:=World.cells?_some hc
  simp only [Prod.mk.injEq] at hy
  refine⟨n',fun j f hj=>?_⟩
  obtain⟨ho,hk⟩:=hone_of hone j f hj
  have hjl:j < fs.size:=(Array.getElem?_eq_some_iff.1 hj).1
  have hcell:=hat j hjl
  have hv:cs'[j]? = some (cs'[j]'(by omega)):=List.getElem?_eq_getElem (by omega)
  have h1:=hf j f hj
  rw [ho,hk] at h1
  have hone':(cs'.drop j).take 1=[cs'[j]'(by omega)]:=by
   rw [List.drop_eq_getElem_cons (by omega)]
   rfl
  rw [hone'] at h1
  have hys:ys[j]? = some (ys[j]'(by omega)):=List.getElem?_eq_getElem (by omega)
  refine⟨_,_,?_,h1.trans hys,?_⟩
  ·rw [←Go.Deep.add_add,hcell,hv]
  ·have:=bulk_agg hys
   rw [←hy.1] at this
   omega
theorem open_strM {fuel:Nat} {v:Value} {x:DataW H×List MemPlace} (h:DataW.trod enc Tryz.prog W base spare held fuel 9 [v]=some x) (hM:Rows.uptoBulk x.1≤M):∃s:ByteArray,v=.string s∧s.size≤M:=by
 obtain⟨s,e,hx,_⟩:=DataW.trod_string Tryz.underlying9 h
 simp only [List.cons.injEq,and_true] at e
 rw [hx] at hM
 exact⟨s,e,bulk_str hM⟩
theorem open_attrsM {fuel:Nat} {cs:List Value} {x:DataW H×List MemPlace} (h:DataW.trod enc Tryz.prog W base spare held fuel 34 cs=some x) (hM:Rows.uptoBulk x.1≤M) :
  ∃(A:Option Addr) (l:List AttrL) (c:Nat),cs=[.slice A l.length c]∧l.length≤c∧RdA W W.heap.size A l∧l.length≤M∧∀a∈l,SzA M a:=by
 rcases open_fieldsM Tryz.underlying34 Tryz.underlying75 (by kernel_rfl) (by kernel_rfl) h hM with rfl|⟨a,len,cap,rfl,hl,hm,hi⟩
 ·exact⟨none,[],0,rfl,Nat.le_refl _,fun h=>absurd h (by simp),Nat.zero_le _,by simp⟩
 ·obtain⟨l,rfl,hp⟩:=list_of (P:=fun i (x:AttrL)=>(W.cell? (a.add (i*3))=some (.string x.space)∧W.cell? (a.add (i*3+1))=some (.string x.name)∧W.cell? (a.add (i*3+2))=some (.string x.value))∧SzA M x) len fun i hil=>by
   obtain⟨n,hf⟩:=hi i hil
   obtain⟨v0,y0,c0,t0,m0⟩:=hf 0 _ rfl
   obtain⟨v1,y1,c1,t1,m1⟩:=hf 1 _ rfl
   obtain⟨v2,y2,c2,t2,m2⟩:=hf 2 _ rfl
   obtain⟨s0,rfl,z0⟩:=open_strM t0 m0
   obtain⟨s1,rfl,z1⟩:=open_strM t1 m1
   obtain⟨s2,rfl,z2⟩:=open_strM t2 m2
   exact⟨⟨s0,s1,s2⟩,⟨c0,c1,c2⟩,z0,z1,z2⟩
  refine⟨some a,l,cap,rfl,hl,fun h0=>?_,hm,fun x hx=>?_⟩
  ·obtain⟨b,off,rfl,hb⟩:=addr_of (by simpa using (hp 0 l[0] (List.getElem?_eq_getElem h0)).1.1)
   refine⟨b,off,rfl,hb,fun i x hx=>?_⟩
   have:=(hp i x hx).1
   simp only [AtAt,NdAt,Nat.add_assoc]
   simpa only [add_mk,Nat.add_assoc] using this
  ·obtain⟨i,hi,rfl⟩:=List.mem_iff_getElem.1 hx
   exact(hp i _ (List.getElem?_eq_getElem hi)).2
theorem open_nodesM {fuel : Nat} {cs : List Value} {x : DataW H × List MemPlace} (h : DataW.trod enc Tryz.prog W base spare held fuel 22 cs = some x) (hM : Rows.uptoBulk x.1 ≤ M) :
    ∃ (A : Option Addr) (v : List NodeL) (c : Nat), cs = [.slice A v.length c] ∧ v.length ≤ c ∧ RdV W W.heap.size A v ∧ SzV M v := by
  rcases open_fieldsM Tryz.underlying22 Tryz.underlying36 (by kernel_rfl) (by kernel_rfl) h hM with rfl | ⟨a, len, cap, rfl, hl, hm, hi⟩
  · exact ⟨none, [], 0, rfl, Nat.le_refl _, fun h => absurd h (by simp), Nat.zero_le _, by simp⟩
  · obtain ⟨l, rfl, hp⟩ := list_of (P := fun i (x : NodeL) => (W.cell? (a.add (i * 6)) = some (.int .u8 x.kind) ∧ W.cell? (a.add (i * 6 + 1)) = some (.string x.space) ∧ W.cell? (a.add (i * 6 + 2)) = some (.string x.name) ∧
        (∃ A c, W.cell? (a.add (i * 6 + 3)) = some (.slice A x.attrs.length c) ∧ x.attrs.length ≤ c ∧ RdA W W.heap.size A x.attrs) ∧ W.cell? (a.add (i * 6 + 4)) = some (.string x.text) ∧ W.cell? (a.add (i * 6 + 5)) = some (.int .i64 x.many)) ∧ SzN M x) len fun i hil => by
      obtain ⟨n, hf⟩ := hi i hil
      obtain ⟨v0, y0, c0, t0, m0⟩ := hf 0 _ rfl
      obtain ⟨v1, y1, c1, t1, m1⟩ := hf 1 _ rfl
      obtain ⟨v2, y2, c2, t2, m2⟩ := hf 2 _ rfl
      obtain ⟨v3, y3, c3, t3, m3⟩ := hf 3 _ rfl
      obtain ⟨v4, y4, c4, t4, m4⟩ := hf 4 _ rfl
      obtain ⟨v5, y5, c5, t5, m5⟩ := hf 5 _ rfl
      obtain ⟨s0, e0, _, z0⟩ := DataW.trod_int Tryz.underlying5 t0
      obtain ⟨s1, rfl, z1⟩ := open_strM t1 m1
      obtain ⟨s2, rfl, z2⟩ := open_strM t2 m2
      obtain ⟨A3, l3, k3, e3, hl3, hr3, hm3, z3⟩ := open_attrsM t3 m3
      obtain ⟨s4, rfl, z4⟩ := open_strM t4 m4
      obtain ⟨s5, e5, _, z5⟩ := DataW.trod_int Tryz.underlying3 t5
      simp only [List.cons.injEq, and_true] at e0 e3 e5
      subst e0 e3 e5
      exact ⟨⟨s0, s1, s2, l3, s4, s5⟩, ⟨c0, c1, c2, ⟨A3, k3, c3, hl3, hr3⟩, c4, c5⟩, wf_u8 z0, z1, z2, ⟨hm3, z3⟩, z4, wf_i64 z5⟩
    refine ⟨some a, l, cap, rfl, hl, fun h0 => ?_, hm, fun x hx => ?_⟩
    · obtain ⟨b, off, rfl, hb⟩ := addr_of (by simpa using (hp 0 l[0] (List.getElem?_eq_getElem h0)).1.1)
      refine ⟨b, off, rfl, hb, fun i x hx => ?_⟩
      have := (hp i x hx).1
      simp only [AtAt, NdAt, Nat.add_assoc]
      simpa only [add_mk, Nat.add_assoc] using this
    · obtain ⟨i, hi, rfl⟩ := List.mem_iff_getElem.1 hx
      exact (hp i _ (List.getElem?_eq_getElem hi)).2
theorem open_treesM {fuel:Nat} {cs:List Value} {x:DataW H×List MemPlace} (h:DataW.trod enc Tryz.prog W base spare held fuel 25 cs=some x) (hM:Rows.uptoBulk x.1≤M) :
  ∃(A:Option Addr) (l:List (List NodeL)) (c:Nat),cs=[.slice A l.length c]∧l.length≤c∧RdW W W.heap.size A l∧l.length≤M∧∀v∈l,SzV M v:=by
 rcases open_sliceM Tryz.underlying25 h hM with rfl|⟨a,len,cap,n,rfl,hl,hm,hi⟩
 ·exact⟨none,[],0,rfl,Nat.le_refl _,fun h=>absurd h (by simp),Nat.zero_le _,by simp⟩
 ·obtain⟨l,rfl,hp⟩:=list_of (P:=fun i (x:List NodeL)=>(∃A' c',W.cell? (a.add i)=some (.slice A' x.length c')∧x.length≤c'∧RdV W W.heap.size A' x)∧SzV M x) len fun i hil=>by
   obtain⟨cs',D,Pl,hc,ht',hD⟩:=hi i hil
   obtain⟨A',v,c',rfl,q1,q2,q3⟩:=open_nodesM ht' hD
   rw [show Tryz.prog.cellsOf 22=1 by kernel_rfl,Nat.mul_one] at hc
   obtain⟨_,hcl,hat⟩:=World.cells?_some hc
   have h0:=hat 0 (by omega)
   refine⟨v,⟨A',c',?_,q1,q2⟩,q3⟩
   have e:(a.add i).add 0=a.add i:=by simp [Addr.add]
   rw [e] at h0
   exact h0
  refine⟨some a,l,cap,rfl,hl,fun h0=>?_,hm,fun x hx=>?_⟩
  ·obtain⟨A',c',hcell,_⟩:=(hp 0 l[0] (List.getElem?_eq_getElem h0)).1
   obtain⟨b,off,rfl,hb⟩:=addr_of hcell
   refine⟨b,off,rfl,hb,fun i x hx=>?_⟩
   obtain⟨A'',c'',q1,q2,q3⟩:=(hp i x hx).1
   exact⟨A'',c'',by simpa only [add_mk] using q1,q2,q3⟩
  ·obtain⟨i,hi,rfl⟩:=List.mem_iff_getElem.1 hx
   exact(hp i _ (List.getElem?_eq_getElem hi)).2
set_option maxRecDepth 100000 in
theorem open_agg6 {r:Reach} {b0:Nat} {t:TypeId} {f0 f1 f2 f3 f4 f5:Field} {v:Value} {d:DataW H} {p:List MemPlace} (hs:Tryz.prog.underlying t=some (.struct #[f0,f1,f2,f3,f4,f5])) (hone:oneCellFields Tryz.prog #[f0,f1,f2,f3,f4,f5]=true) (hC:Tryz.prog.cellsOf t=6)
  (hv:Value.okWide Tryz.prog W r b0 t v) (h:DataW.Trod enc Tryz.prog W base spare held t v d p) :
  ∃(v0 v1 v2 v3 v4 v5:Value) (y0 y1 y2 y3 y4 y5:DataW H×List MemPlace) (n:Nat),v=.agg #[v0,v1,v2,v3,v4,v5]∧d=.agg ([y0,y1,y2,y3,y4,y5].map (·.1))∧
   DataW.trod enc Tryz.prog W base spare held n f0.type [v0]=some y0∧DataW.trod enc Tryz.prog W base spare held n f1.type [v1]=some y1∧DataW.trod enc Tryz.prog W base spare held n f2.type [v2]=some y2∧DataW.trod enc Tryz.prog W base spare held n f3.type [v3]=some y3∧DataW.trod enc Tryz.prog W base spare held n f4.type [v4]=some y4∧DataW.trod enc Tryz.prog W base spare held n f5.type [v5]=some y5:=by
 obtain⟨cs,rfl,hsz⟩:=okWide_struct hs hv
 obtain⟨l⟩:=cs
 match l,hsz.trans hC with
 | [c0,c1,c2,c3,c4,c5],_=>
  obtain⟨fuel,hf⟩:=h
  obtain⟨xs,n,_,hx,_,hlen,hg⟩:=DataW.trod_struct hs hf
  obtain⟨o0,k0⟩:=hone_of hone 0 f0 rfl
  obtain⟨o1,k1⟩:=hone_of hone 1 f1 rfl
  obtain⟨o2,k2⟩:=hone_of hone 2 f2 rfl
  obtain⟨o3,k3⟩:=hone_of hone 3 f3 rfl
  obtain⟨o4,k4⟩:=hone_of hone 4 f4 rfl
  obtain⟨o5,k5⟩:=hone_of hone 5 f5 rfl
  match xs,hlen with
  | [y0,y1,y2,y3,y4,y5],_=>
   simp only [Prod.mk.injEq] at hx
   exact⟨c0,c1,c2,c3,c4,c5,y0,y1,y2,y3,y4,y5,n,rfl,hx.1,by simpa [Value.cells,o0,k0] using hg 0 f0 rfl,by simpa [Value.cells,o1,k1] using hg 1 f1 rfl,by simpa [Value.cells,o2,k2] using hg 2 f2 rfl,by simpa [Value.cells,o3,k3] using hg 3 f3 rfl,by simpa [Value.cells,o4,k4] using hg 4 f4 rfl,by simpa [Value.cells,o5,k5] using hg 5 f5 rfl⟩
set_option maxRecDepth 100000 in
theorem open_stanzaM {r:Reach} {b0:Nat} {v:Value} {d:DataW H} {p:List MemPlace} (hv:Value.okWide Tryz.prog W r b0 27 v) (h:DataW.Trod enc Tryz.prog W base spare held 27 v d p) (hM:Rows.uptoBulk d≤1048576) :
  ∃(s:StL) (A:Option Addr) (c:Nat),v=encS s A c∧s.load.length≤c∧RdW W W.heap.size A s.load∧SzS s:=by
 obtain⟨v0,v1,v2,v3,v4,v5,y0,y1,y2,y3,y4,y5,n,rfl,rfl,t0,t1,t2,t3,t4,t5⟩:=open_agg6 Tryz.underlying27 (by kernel_rfl) (by kernel_rfl) hv h
 have hb:=fun j y (hj:[y0,y1,y2,y3,y4,y5][j]? = some y)=>Nat.le_trans (bulk_agg hj) hM
 obtain⟨s0,e0,_,z0⟩:=DataW.trod_int Tryz.underlying5 t0
 obtain⟨s1,rfl,z1⟩:=open_strM t1 (hb 1 _ rfl)
 obtain⟨s2,rfl,z2⟩:=open_strM t2 (hb 2 _ rfl)
 obtain⟨s3,rfl,z3⟩:=open_strM t3 (hb 3 _ rfl)
 obtain⟨s4,rfl,z4⟩:=open_strM t4 (hb 4 _ rfl)
 obtain⟨A,l,c,e5,q1,q2,q3,q4⟩:=open_treesM t5 (hb 5 _ rfl)
 simp only [List.cons.injEq,and_true] at e0 e5
 subst e0 e5
 have hm:∀v∈l,SzV 1000000000 v:=fun v hv=>by
  obtain⟨r1,r2⟩:=q4 v hv
  refine⟨by omega,fun n hn=>?_⟩
  obtain⟨u1,u2,u3,u4,u5,u6⟩:=r2 n hn
  refine⟨u1,by omega,by omega,⟨by omega,fun a ha=>?_⟩,by omega,u6⟩
  obtain⟨x1,x2,x3⟩:=u4.2 a ha
  exact⟨by omega,by omega,by omega⟩
 exact⟨⟨s0,s1,s2,s3,s4,l⟩,A,c,rfl,q1,q2,wf_u8 z0,by show s1.size≤_;omega,by show s2.size≤_;omega,by show s3.size≤_;omega,by show s4.size≤_;omega,by show l.length≤_;omega,hm⟩
end
end Go.Proofs.YtnmnpnofdgdigaaGreatDoor
end
section
namespace Go.Proofs.YtnmnpnofdgdigaaGreatDoor.stanzaTellsDone
open Go.ChangeShapes Go.WideShapes Go.ChangeAt Go.RowKit Go.Lib
open Go.ChangeMaps (open_string shut_string)
set_option linter.unusedVariables false
noncomputable def laidWorld (os:Os):World:=
 let w0:=World.holding Tryz.prog os ⟨#[],#[],[]⟩
 let put (h:Array Obj) (g:Nat) (cs:Array Value):Array Obj:=h.modify g fun
  | .cells _ t frozen=>.cells cs t frozen
  | o=>o
 let h1:=put w0.heap 0 (Lib.firstTab.map fun z=>Value.int .u8 z).toArray
 let h2:=put h1 1 ((List.range 16).flatMap fun i=>[Value.int .u8 (Lib.accLo i),Value.int .u8 (Lib.accHi i)]).toArray
 { w0 with heap:=h2}
theorem laid_met (os:Os) (args:Array Value):laidMet Tryz.prog Rows.stanzaTellsUptoRow.laid ((laidWorld os).forCall (fun _ _=>0) ⟨#[],args,[]⟩).memory:=
 (LaidIn.of_run [1,0] 8 (by kernel_rfl) (by kernel_rfl) (by kernel_rfl) (by kernel_rfl):LaidIn Tryz.prog ((laidWorld os).forCall (fun _ _=>0) ⟨#[],args,[]⟩).memory Rows.stanzaTellsUptoRow.laid [1,0]).met
theorem witness_row (os:Os) {H:Type} (enc:TypeId×Value→H) :
  (Rows.OpenSpec.upto Rows.stanzaTellsSpec).preRow enc Tryz.prog Tryz.f4 Rows.stanzaTellsUptoRow.domain false Rows.stanzaTellsUptoRow.laid ((laidWorld os).forCall (fun _ _=>0) ⟨#[],#[.agg #[.int .u8 0,.string ⟨#[]⟩,.string ⟨#[]⟩,.string ⟨#[]⟩,.string ⟨#[]⟩,.slice none 0 0],.agg #[.int .u8 0,.string ⟨#[]⟩,.string ⟨#[]⟩,.string ⟨#[]⟩,.string ⟨#[]⟩,.slice none 0 0],.string ⟨#[]⟩],[]⟩).memory #[.agg #[.int .u8 0,.string ⟨#[]⟩,.string ⟨#[]⟩,.string ⟨#[]⟩,.string ⟨#[]⟩,.slice none 0 0],.agg #[.int .u8 0,.string ⟨#[]⟩,.string ⟨#[]⟩,.string ⟨#[]⟩,.string ⟨#[]⟩,.slice none 0 0],.string ⟨#[]⟩]:=by
 have hw:(DataW.whole enc Tryz.prog ((laidWorld os).forCall (fun _ _=>0) ⟨#[],#[.agg #[.int .u8 0,.string ⟨#[]⟩,.string ⟨#[]⟩,.string ⟨#[]⟩,.string ⟨#[]⟩,.slice none 0 0],.agg #[.int .u8 0,.string ⟨#[]⟩,.string ⟨#[]⟩,.string ⟨#[]⟩,.string ⟨#[]⟩,.slice none 0 0],.string ⟨#[]⟩],[]⟩).memory Tryz.f4.params.toList (Rows.OpenSpec.upto Rows.stanzaTellsSpec).vars false #[Value.agg #[.int .u8 0,.string ⟨#[]⟩,.string ⟨#[]⟩,.string ⟨#[]⟩,.string ⟨#[]⟩,.slice none 0 0],Value.agg #[.int .u8 0,.string ⟨#[]⟩,.string ⟨#[]⟩,.string ⟨#[]⟩,.string ⟨#[]⟩,.slice none 0 0],Value.string ⟨#[]⟩].toList 8).map (fun x=>(x.1,x.2.1)) =
   some ([.agg [.lit (.int .u8 0),.lit (.string []),.lit (.string []),.lit (.string []),.lit (.string []),.nil],.agg [.lit (.int .u8 0),.lit (.string []),.lit (.string []),.lit (.string []),.lit (.string []),.nil],.lit (.string [])],[]):=by kernel_rfl
 obtain⟨⟨x1,x2,x3⟩,hx,hx1⟩:=Option.map_eq_some_iff.1 hw
 simp only [Prod.mk.injEq] at hx1
 obtain⟨rfl,rfl⟩:=hx1
 exact OpenSpec.preRow_of_cond 8 hx (by kernel_rfl) (fun k hk=>by cases hk;kernel_rfl) (by kernel_rfl) (laid_met os _)
theorem glb_of {W:World} (h:W.ShapedOpen Tryz.prog):Glb W:=
 Go.Proofs.cell_of_shapedOpen_int (zero:=#[.int .i64 0]) (t:=3) h (of_decide_eq_true (by kernel_rfl)) (by kernel_rfl) rfl (by kernel_rfl) (by kernel_rfl) Tryz.underlying3
set_option maxRecDepth 100000 in
set_option maxHeartbeats 2000000 in
theorem lifted (os:Os) (started:os.Started) (H:Type) (enc:TypeId×Value→H) (F:Stop.Interp) :
  ReturnsInHanded {} Tryz.checked os 4 .any ((Rows.OpenSpec.upto Rows.stanzaTellsSpec).preRow enc Tryz.prog Tryz.f4 Rows.stanzaTellsUptoRow.domain false Rows.stanzaTellsUptoRow.laid) (((Rows.OpenSpec.upto Rows.stanzaTellsSpec).at F).post enc Tryz.prog Tryz.f4 false true false false):=by
 refine returnsInHanded_of_row (C:=Tryz.checked) (s:=Rows.OpenSpec.upto Rows.stanzaTellsSpec) own started (by kernel_rfl) Tryz.func4
  (witness_row_atRef (enc:=enc) (C:=Tryz.checked) false (laidWorld os) #[.agg #[.int .u8 0,.string ⟨#[]⟩,.string ⟨#[]⟩,.string ⟨#[]⟩,.string ⟨#[]⟩,.slice none 0 0],.agg #[.int .u8 0,.string ⟨#[]⟩,.string ⟨#[]⟩,.string ⟨#[]⟩,.string ⟨#[]⟩,.slice none 0 0],.string ⟨#[]⟩] rfl (by kernel_rfl) (by kernel_rfl) (by kernel_rfl) (witness_row os enc)) ?_
 intro W base args ds gs before hval0 hW _ hk _ _ hsh _
 have hval:∀(j:Nat) t v,Tryz.f4.params[j]? = some t→args[j]? = some v→Value.okWide Tryz.prog W .any base t v:=hval0
 have hW':=hW
 obtain⟨p,q,hA0,hV,rfl,hfz,hnd⟩:=hW
 have hA:DataW.TrodAll enc Tryz.prog W 0 (fun _=>true) true Tryz.f4.params.toList args.toList ds p:=hA0
 rw [Tryz.params4] at hA hval
 obtain⟨v0,vs0,d0,ds0,p0,q0,hargs,rfl,rfl,h0,r0⟩:=trodAll_cons hA
 obtain⟨v1,vs1,d1,ds1,p1,q1,rfl,rfl,rfl,h1,r1⟩:=trodAll_cons r0
 obtain⟨v2,vs2,d2,ds2,p2,q2,rfl,rfl,rfl,h2,r2⟩:=trodAll_cons r1
 obtain⟨rfl,rfl,rfl⟩:=trodAll_nil r2
 obtain rfl:args=#[v0,v1,v2]:=by cases args;simp_all
 obtain⟨rfl,rfl⟩:=trodVars_none hV
 have hbulk:Rows.uptoBulkAll ([d0,d1,d2]++[])≤1048576:=of_decide_eq_true (hk _ rfl)
 have b0:=Nat.le_trans (bulk_part (show d0∈[d0,d1,d2]++[] by simp)) hbulk
 have b1:=Nat.le_trans (bulk_part (show d1∈[d0,d1,d2]++[] by simp)) hbulk
 have b2:=Nat.le_trans (bulk_part (show d2∈[d0,d1,d2]++[] by simp)) hbulk
 have k0:=h0
 have k1:=h1
 have lt0:∀x∈p0,x.block < W.heap.size:=by obtain⟨m,hm⟩:=k0;exact DataW.trod_lt m _ _ _ hm
 have lt1:∀x∈p1,x.block < W.heap.size:=by obtain⟨m,hm⟩:=k1;exact DataW.trod_lt m _ _ _ hm
 obtain⟨s,A,c,rfl,hc,hr,hz⟩:=open_stanzaM (hval 0 27 v0 rfl rfl) h0 b0
 obtain⟨o,Ao,co,rfl,hco,hro,hzo⟩:=open_stanzaM (hval 1 27 v1 rfl rfl) h1 b1
 obtain⟨wd,rfl,rfl,rfl,hwd⟩:=open_string Tryz.underlying9 (hval 2 9 v2 rfl rfl) h2
 have hwz:wd.size≤1000000000:=Nat.le_trans (bulk_str b2) (by decide)
 clear hA0 hval0
 refine(stanzatells_walk s o A Ao c co wd W hz hzo hwz hr hro (glb_of hsh)).mono fun e W' ⟨he,bel⟩=>?_
 subst he
 exact⟨_,rfl,_,_,_,[],_,[],hW',trodAll_mk1 (shut_bool Tryz.underlying4 _),(trodAll_cons_mk (Below.trod laidOut (by kernel_rfl) (of_decide_eq_true (by kernel_rfl)) k0 bel lt0) (trodAll_cons_mk (Below.trod laidOut (by kernel_rfl) (of_decide_eq_true (by kernel_rfl)) k1 bel lt1) (trodAll_cons_mk (shut_string Tryz.underlying9 hwd) trodAll_mk0))),rfl,bel.frame _,fun h=>by cases h⟩
end Go.Proofs.YtnmnpnofdgdigaaGreatDoor.stanzaTellsDone
end
section
namespace Go.Proofs.YtnmnpnofdgdigaaGreatDoor.stanzaTellsDone
open Go.ChangeShapes Go.WideShapes Go.ChangeAt Go.RowKit Go.Lib
set_option linter.unusedVariables false
theorem closed:joinedFacts Tryz.prog 4 Tryz.f4 (Rows.OpenSpec.upto Rows.stanzaTellsSpec).bare Rows.stanzaTellsUptoRow=true:=by
 delta joinedFacts
 rewrite [may_enter,lifts_final,make_cut,laidOut,maps_rowed,stops_heard,stops_none,stopKnobs_none]
 kernel_rfl
theorem inst:Tryz.f4.isInstance Tryz.prog Rows.stanzaTellsUptoRow.origin Rows.stanzaTellsUptoRow.targs:=of_decide_eq_true (by kernel_rfl)
theorem wrap:Tryz.f4.isWrapper Tryz.prog Rows.stanzaTellsUptoRow.wrapper Rows.stanzaTellsUptoRow.mainSum:=by unfold Func.isWrapper;first|(rw [if_pos (by decide +kernel)];kernel_rfl)|(rw [if_neg (by decide +kernel)];exact⟨rfl,rfl⟩)
set_option maxRecDepth 100000 in
theorem over:Rows.stanzaTellsUptoRow.holds Tryz.pinned (Rows.OpenSpec.upto Rows.stanzaTellsSpec):=
 OpenClaim.holds_of_cond 4 Tryz.f4 rfl rfl rfl rfl rfl rfl rfl ⟨rfl,rfl,rfl,rfl,rfl⟩ rfl rfl rfl rfl rfl (by kernel_rfl) Tryz.func4 closed inst wrap
  (fun os started H enc _ F0=>by rw [OpenClaim.pre_eq_preRow];exact lifted os started H enc F0)
theorem proved:Rows.StanzaTellsUptoCardSaid:=
 Claim7.holds_tied_plain_at .later [] [.data,.pinned] true (true,"89ded513e3b69e433ca6889fb9ec701f12fd24858b342dc03a31828d4c60f8aa") false
  over (fun _ h=>by cases h) (by kernel_rfl) (fun _ h=>by cases h) stanzaTellsUpto_row_tie rfl ⟨rfl,rfl⟩ (by kernel_rfl) rfl
  (fun f fn hf hfn=>by
   obtain rfl:f=4:=Option.some.inj ((show Tryz.prog.funcNamed "tidewaiter/tidewaiterlaw22.StanzaTells"=some 4 by kernel_rfl).symm.trans hf) |>.symm
   obtain rfl:fn=Tryz.f4:=(Option.some.inj (Tryz.func4.symm.trans hfn)).symm
   exact⟨by kernel_rfl,fun j t ht=>by
    rw [Tryz.params4] at ht
    have h3:t=27∨t=9:=by
     rcases j with _|_|_|j
     ·exact .inl (by simpa using ht.symm)
     ·exact .inl (by simpa using ht.symm)
     ·exact .inr (by simpa using ht.symm)
     ·simp at ht
    rcases h3 with rfl|rfl
    ·exact(show Tryz.prog.wantsStandIn 27=false by kernel_rfl)
    ·exact(show Tryz.prog.wantsStandIn 9=false by kernel_rfl)⟩)
  (by kernel_rfl)
#print axioms proved
end Go.Proofs.YtnmnpnofdgdigaaGreatDoor.stanzaTellsDone
end
