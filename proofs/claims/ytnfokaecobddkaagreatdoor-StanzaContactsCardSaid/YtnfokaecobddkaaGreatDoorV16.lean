/- Part 16 of a proof laid in parts, one behind the other; no condition of its own. -/
import Derived.Test.YtnfokaecobddkaaGreatDoorV13
import Derived.Deep.Cut
set_option linter.all false
section
namespace Go.Proofs.YtnfokaecobddkaaGreatDoor
open Go.RowKit
set_option linter.unusedSimpArgs false
set_option linter.unusedVariables false
def SmallN5 (n:NodeL):Prop:=n.space.size≤500∧n.name.size≤500∧n.text.size≤500∧n.attrs.length≤30∧∀(i:Nat) (a:AttrL),i < n.attrs.length→n.attrs[i]? = some a→SzA 500 a
def GreatP5 (v:List NodeL) (w:World) (e:Ending) (w':World):Prop:=
 ∃g,e=.returned (.bool g)∧Below w.heap.size w w'∧(g=false→v.length≤30∧∀(i:Nat) (n:NodeL),i < v.length→v[i]? = some n→SmallN5 n)
theorem GreatP5.yes {v:List NodeL} {w w':World} (h:Below w.heap.size w w'):GreatP5 v w (.returned (.bool true)) w':=⟨true,rfl,h,fun h=>by cases h⟩
theorem GreatP5.no {v:List NodeL} {w w':World} (h:Below w.heap.size w w') (h1:v.length≤30) (h2:∀(i:Nat) (n:NodeL),i < v.length→v[i]? = some n→SmallN5 n):GreatP5 v w (.returned (.bool false)) w':=⟨false,rfl,h,fun _=>⟨h1,h2⟩⟩
end Go.Proofs.YtnfokaecobddkaaGreatDoor
end
section
namespace Go.Proofs.YtnfokaecobddkaaGreatDoor
open Go.RowKit
set_option linter.unusedSimpArgs false
set_option linter.unusedVariables false
end Go.Proofs.YtnfokaecobddkaaGreatDoor
end
section
namespace Go.Proofs.YtnfokaecobddkaaGreatDoor
open Go.RowKit
set_option linter.unusedSimpArgs false
set_option linter.unusedVariables false
def SmallV5 (v:List NodeL):Prop:=v.length≤30∧∀(i:Nat) (n:NodeL),i < v.length→v[i]? = some n→SmallN5 n
def GreatS (s:StL) (w:World) (e:Ending) (w':World):Prop:=
 ∃g,e=.returned (.bool g)∧Below w.heap.size w w'∧(g=false→s.load.length≤20∧∀(i:Nat) (v:List NodeL),i < s.load.length→s.load[i]? = some v→SmallV5 v)
theorem GreatS.yes {s:StL} {w w':World} (h:Below w.heap.size w w'):GreatS s w (.returned (.bool true)) w':=⟨true,rfl,h,fun h=>by cases h⟩
theorem GreatS.no {s:StL} {w w':World} (h:Below w.heap.size w w') (h1:s.load.length≤20) (h2:∀(i:Nat) (v:List NodeL),i < s.load.length→s.load[i]? = some v→SmallV5 v):GreatS s w (.returned (.bool false)) w':=⟨false,rfl,h,fun _=>⟨h1,h2⟩⟩
end Go.Proofs.YtnfokaecobddkaaGreatDoor
end
section
namespace Go.Proofs.YtnfokaecobddkaaGreatDoor
open Go.RowKit
set_option linter.unusedSimpArgs false
set_option linter.unusedVariables false
def cW (x:WantL) (A:Option Addr) (c:Nat):Array Value:=#[.int .u8 x.kind,.string x.res,.string x.jid,.string x.name,.slice A x.groups.length c,.bool false,.bool false,.bool false,.bool false,.bool false,.bool x.gone]
def PtW (B:Nat):Ty:=.inr fun u W=>∃g,u=.pointer (some ⟨g,0,none⟩)∧B≤g∧Row W g (cW emW none 0)
section
variable {ops:Array Oper} {w0:World} {Fin:List Ty→Prop} {rest:List Oper} {E:Env} {Ts:List Ty} {o:Oper}
def itemJ (j:ByteArray):WantL:=⟨0,emB,j,emB,[],false⟩
theorem tw_bldI {x:Operand} (j:ByteArray) (hop:o.op=.build 48 #[(0,x)]) (hx:evalE E x=some (.string j)) (hw:Wd ops o E true)
  (hr:wpT Tryz.prog ops w0 Fin rest (E.put o.dst (.inl (encI (itemJ j) none 0))) (.inl (encI (itemJ j) none 0) :: Ts)):wpT Tryz.prog ops w0 Fin (o :: rest) E Ts:=
 tw_pure _ hw (fun a W hW hs=>by
  have h1:a.eval x=_:=evalE_of hx (by rw [hop];simp [Op.operands]) hs
  unfold execOp encI itemJ
  dsimp only
  simp only [hop,List.map_toArray,List.map_cons,List.map_nil,h1]
  go_simp
  try rfl) hr
def wantG (j:ByteArray) (b:Bool):WantL:=⟨3,emB,j,emB,[],b⟩
theorem tw_bldW {x y:Operand} (j:ByteArray) (b:Bool) (hop:o.op=.build 51 #[(0,.const (.int .u8 3)),(2,x),(3,y)]) (hx:evalE E x=some (encI (itemJ j) none 0)) (hy:evalE E y=some (.bool b)) (hw:Wd ops o E true)
  (hr:wpT Tryz.prog ops w0 Fin rest (E.put o.dst (.inl (encW (wantG j b) none 0))) (.inl (encW (wantG j b) none 0) :: Ts)):wpT Tryz.prog ops w0 Fin (o :: rest) E Ts:=
 tw_pure _ hw (fun a W hW hs=>by
  have h1:a.eval x=_:=evalE_of hx (by rw [hop];simp [Op.operands]) hs
  have h2:a.eval y=_:=evalE_of hy (by rw [hop];simp [Op.operands]) hs
  have h3:a.eval (.const (.int .u8 3))=.int .u8 3:=rfl
  unfold execOp encW wantG
  unfold encI itemJ at h1
  dsimp only at h1 ⊢
  simp only [hop,List.map_toArray,List.map_cons,List.map_nil,h1,h2,h3]
  go_simp
  try rfl) hr
end
end Go.Proofs.YtnfokaecobddkaaGreatDoor
end
section
namespace Go.Proofs.YtnfokaecobddkaaGreatDoor
open Go.RowKit
set_option linter.unusedSimpArgs false
set_option linter.unusedVariables false
def put11 (w:World) (g:Nat) (u0 u1 u2 u3 u4 u5 u6 u7 u8 u9 u10:Value):World:=
 ((((((((((w.setCell ⟨g,0,none⟩ u0).setCell ⟨g,1,none⟩ u1).setCell ⟨g,2,none⟩ u2).setCell ⟨g,3,none⟩ u3).setCell ⟨g,4,none⟩ u4).setCell ⟨g,5,none⟩ u5).setCell ⟨g,6,none⟩ u6).setCell ⟨g,7,none⟩ u7).setCell ⟨g,8,none⟩ u8).setCell ⟨g,9,none⟩ u9).setCell ⟨g,10,none⟩ u10
theorem put11_row {w:World} {g:Nat} {x:WantL} {A:Option Addr} {c:Nat} (h:Row w g (cW x A c)) (u0 u1 u2 u3 u4 u5 u6 u7 u8 u9 u10:Value):Row (put11 w g u0 u1 u2 u3 u4 u5 u6 u7 u8 u9 u10) g #[u0,u1,u2,u3,u4,u5,u6,u7,u8,u9,u10]:=by
 unfold put11
 unfold cW at h
 have h:=h.set 0 u0
 simp only [List.setIfInBounds_toArray,List.set_cons_zero,List.set_cons_succ] at h
 have h:=h.set 1 u1
 simp only [List.setIfInBounds_toArray,List.set_cons_zero,List.set_cons_succ] at h
 have h:=h.set 2 u2
 simp only [List.setIfInBounds_toArray,List.set_cons_zero,List.set_cons_succ] at h
 have h:=h.set 3 u3
 simp only [List.setIfInBounds_toArray,List.set_cons_zero,List.set_cons_succ] at h
 have h:=h.set 4 u4
 simp only [List.setIfInBounds_toArray,List.set_cons_zero,List.set_cons_succ] at h
 have h:=h.set 5 u5
 simp only [List.setIfInBounds_toArray,List.set_cons_zero,List.set_cons_succ] at h
 have h:=h.set 6 u6
 simp only [List.setIfInBounds_toArray,List.set_cons_zero,List.set_cons_succ] at h
 have h:=h.set 7 u7
 simp only [List.setIfInBounds_toArray,List.set_cons_zero,List.set_cons_succ] at h
 have h:=h.set 8 u8
 simp only [List.setIfInBounds_toArray,List.set_cons_zero,List.set_cons_succ] at h
 have h:=h.set 9 u9
 simp only [List.setIfInBounds_toArray,List.set_cons_zero,List.set_cons_succ] at h
 have h:=h.set 10 u10
 simp only [List.setIfInBounds_toArray,List.set_cons_zero,List.set_cons_succ] at h
 exact h
theorem put11_below {B:Nat} {w w0:World} {g:Nat} (h:Below B w0 w) (hg:B≤g) (u0 u1 u2 u3 u4 u5 u6 u7 u8 u9 u10:Value):Below B w0 (put11 w g u0 u1 u2 u3 u4 u5 u6 u7 u8 u9 u10):=
 ((((((((((h.setCell (p:=⟨g,0,none⟩) hg u0).setCell (p:=⟨g,1,none⟩) hg u1).setCell (p:=⟨g,2,none⟩) hg u2).setCell (p:=⟨g,3,none⟩) hg u3).setCell (p:=⟨g,4,none⟩) hg u4).setCell (p:=⟨g,5,none⟩) hg u5).setCell (p:=⟨g,6,none⟩) hg u6).setCell (p:=⟨g,7,none⟩) hg u7).setCell (p:=⟨g,8,none⟩) hg u8).setCell (p:=⟨g,9,none⟩) hg u9).setCell (p:=⟨g,10,none⟩) hg u10
theorem put11_other {w:World} {g b:Nat} (hb:b≠g) (u0 u1 u2 u3 u4 u5 u6 u7 u8 u9 u10:Value):(put11 w g u0 u1 u2 u3 u4 u5 u6 u7 u8 u9 u10).heap[b]? = w.heap[b]?:=by
 unfold put11
 iterate 11 rw [heap_setCell_other _ _ b _ hb]
theorem put11_size (w:World) (g:Nat) (u0 u1 u2 u3 u4 u5 u6 u7 u8 u9 u10:Value):w.heap.size≤(put11 w g u0 u1 u2 u3 u4 u5 u6 u7 u8 u9 u10).heap.size:=(put11_below (Below.refl 0 w) (Nat.zero_le g) u0 u1 u2 u3 u4 u5 u6 u7 u8 u9 u10).size
def RdSB (B:Nat) (w:World) (A:Option Addr) (l:List ByteArray):Prop:=0 < l.length→∃b off,A=some ⟨b,off,none⟩∧B≤b∧b < w.heap.size∧∀(i:Nat) (s:ByteArray),l[i]? = some s→w.cell? ⟨b,off+i,none⟩=some (.string s)
theorem RdSB.rds {B:Nat} {w:World} {A:Option Addr} {l:List ByteArray} (h:RdSB B w A l):RdS w A l:=fun h0=>by
 obtain⟨b,off,h1,-,h2,h3⟩:=h h0
 exact⟨b,off,h1,h2,h3⟩
theorem RdSB.mono {B B':Nat} {w:World} {A:Option Addr} {l:List ByteArray} (h:RdSB B w A l) (hb:B'≤B):RdSB B' w A l:=fun h0=>by
 obtain⟨b,off,h1,h4,h2,h3⟩:=h h0
 exact⟨b,off,h1,Nat.le_trans hb h4,h2,h3⟩
theorem RdSB.keep {B:Nat} {w w':World} {A:Option Addr} {l:List ByteArray} (h:RdSB B w A l) (hs:w.heap.size≤w'.heap.size) (hk:∀b,B≤b→b < w.heap.size→w'.heap[b]? = w.heap[b]?):RdSB B w' A l:=fun h0=>by
 obtain⟨b,off,h1,h4,h2,h3⟩:=h h0
 refine⟨b,off,h1,h4,Nat.lt_of_lt_of_le h2 hs,fun i s hi=>?_⟩
 rw [←h3 i s hi]
 simp only [World.cell?,hk b h4 h2]
theorem rds_own {base n c:Nat} {A:Option Addr} {w:World} {l:List ByteArray} (h:w.ownsRow base 9 1 (.slice A n c) n (cellsS l)) (hn:n=l.length):RdSB base w A l:=fun h0=>by
 subst hn
 obtain⟨g,rfl,h1,h2⟩:=own_some h h0
 refine⟨g,0,rfl,h1,h2,fun i s hs=>?_⟩
 rw [Nat.zero_add,h.cellAt i (by have:=(List.getElem?_eq_some_iff.1 hs).1;omega)]
 simp [cellsS,hs]
theorem rdw_keep {base g n c:Nat} {A:Option Addr} {w wr:World} {ts:List TreeH} (h:RowT base (.slice A n c) w ts) (hn:n=ts.length) (hg:g < base) (hs:w.heap.size≤wr.heap.size)
  (hk:∀b,b < w.heap.size→b≠g→wr.heap[b]? = w.heap[b]?):RdW wr wr.heap.size A (ts.map (·.1)):=by
 obtain⟨T,hT⟩:∃T:World,T={ wr with heap:=wr.heap.extract 0 w.heap.size}:=⟨_,rfl⟩
 have hTs:T.heap.size=w.heap.size:=by rw [hT];simp;omega
 have hTb:∀b,b < w.heap.size→T.heap[b]? = wr.heap[b]?:=fun b hb=>by
  rw [hT]
  simp only [Array.getElem?_extract]
  rw [if_pos (by omega),Nat.zero_add]
 have h1:RowT base (.slice A n c) T ts:=h.at (by omega) (fun k hk1 hk2=>(hTb k hk2).trans (hk k hk2 (by omega)))
 have h2:=h1.rdw hn
 exact RdW.ext h2 ⟨by rw [hT],by rw [hT],by rw [hT],by omega,fun k hk1=>(hTb k (by omega)).symm⟩
def SlS1 (s:ByteArray):Ty:=.inr fun u W=>∃g,u=.slice (some ⟨g,0,none⟩) 1 1∧W.heap[g]? = some (.cells #[.string s] 9 (0,0))
theorem stable_sls1 (s:ByteArray):Stable (SlS1 s):=fun u W W' h hx=>by
 obtain⟨g,h1,h2⟩:=h
 exact⟨g,h1,heap_ext h2 hx⟩
theorem tw_newS {ops:Array Oper} {w0:World} {Fin:List Ty→Prop} {rest:List Oper} {E:Env} {Ts:List Ty} {o:Oper} {x:Operand} (s:ByteArray) (hop:o.op=.buildSlice 44 1 #[(0,x)]) (hx:evalE E x=some (.string s)) (hw:Wd ops o E true)
  (hr:wpT Tryz.prog ops w0 Fin rest (E.put o.dst (SlS1 s)) (SlS1 s :: Ts)):wpT Tryz.prog ops w0 Fin (o :: rest) E Ts:=
 tw_val (SlS1 s) (stable_sls1 _) hw (fun ac W hW hs=>by
  have h1:ac.eval x=_:=evalE_of hx (by rw [hop];simp [Op.operands]) hs
  refine⟨.slice (some ⟨W.heap.size,0,none⟩) 1 1,W.alloc (.cells #[.string s] 9),?_,(Below.refl _ W).alloc (Nat.le_refl _) _,W.heap.size,rfl,heap_alloc_new W _⟩
  unfold execOp
  simp only [hop,List.map_toArray,List.map_cons,List.map_nil,h1]
  go_simp) hr
theorem tw_ldL {ops:Array Oper} {w0:World} {Fin:List Ty→Prop} {rest:List Oper} {E:Env} {Ts:List Ty} {o:Oper} {x:Operand} {p:Addr} {A:Option Addr} {m c:Nat} (hop:o.op=.load 44 x) (hE:evalE E x=some (.pointer (some p))) (hc:∀W,Ext w0 W→W.cell? p=some (.slice A m c)) (hw:Wd ops o E true)
  (hr:wpT Tryz.prog ops w0 Fin rest (E.put o.dst (.inl (.slice A m c))) (.inl (.slice A m c) :: Ts)):wpT Tryz.prog ops w0 Fin (o :: rest) E Ts:=
 tw_pure (.slice A m c) hw (fun a W hW hs=>by
  have h1:a.eval x=.pointer (some p):=evalE_of hE (by rw [hop];simp [Op.operands]) hs
  have h2:=hc W hW
  unfold execOp
  simp only [hop,h1]
  go_simp) hr
theorem rd_s1 {W:World} {g:Nat} {s:ByteArray} (h:W.heap[g]? = some (.cells #[.string s] 9 (0,0))):Rd W (g+1) 1 (some ⟨g,0,none⟩) 1 (cellsS [s]):=by
 refine⟨rfl,fun _=>⟨g,0,rfl,Nat.lt_succ_self _,fun j u hu=>?_⟩⟩
 rw [Nat.zero_add,cell_of_row W g j _ _ _ h]
 simpa [cellsS] using hu
end Go.Proofs.YtnfokaecobddkaaGreatDoor
end
section
namespace Go.Proofs.YtnfokaecobddkaaGreatDoor
open Go.RowKit
set_option linter.unusedSimpArgs false
set_option linter.unusedVariables false
theorem rosL:rosB.toList=[106,97,98,98,101,114,58,105,113,58,114,111,115,116,101,114]:=by decide +kernel
theorem groupL:((⟨#[103,114,111,117,112]⟩:ByteArray):ByteArray).toList=[103,114,111,117,112]:=by decide +kernel
theorem removeL:((⟨#[114,101,109,111,118,101]⟩:ByteArray):ByteArray).toList=[114,101,109,111,118,101]:=by decide +kernel
theorem itemL:((⟨#[105,116,101,109]⟩:ByteArray):ByteArray).toList=[105,116,101,109]:=by decide +kernel
end Go.Proofs.YtnfokaecobddkaaGreatDoor
end
section
namespace Go.Proofs.YtnfokaecobddkaaGreatDoor
open Go.RowKit
set_option linter.unusedSimpArgs false
set_option linter.unusedVariables false
def AskedPost (x:WantL) (w:World) (e:Ending) (w':World):Prop:=
 ∃A c,e=.returned (encW x A c)∧x.groups.length≤c∧RdSB w.heap.size w' A x.groups∧Below w.heap.size w w'
theorem AskedPost.em {w w':World} (h:Below w.heap.size w w'):AskedPost emW w (.returned (encW emW none 0)) w':=⟨none,0,rfl,Nat.le_refl _,fun h0=>absurd h0 (by decide),h⟩
theorem AskedPost.res {w w':World} {r:ByteArray} (h:Below w.heap.size w w'):AskedPost ⟨1,r,emB,emB,[],false⟩ w (.returned (encW ⟨1,r,emB,emB,[],false⟩ none 0)) w':=⟨none,0,rfl,Nat.le_refl _,fun h0=>absurd h0 (Nat.lt_irrefl 0),h⟩
theorem asked_start (s:StL) (A:Option Addr) (c:Nat) (w:World):∃W0,W0=(w.alloc (.cells #[.int .u8 s.kind,.string s.typ,.string s.id,.string s.frm,.string s.to,.slice A s.load.length c] 24)).alloc (.cells #[.int .u8 0,.string ⟨#[]⟩,.string ⟨#[]⟩,.string ⟨#[]⟩,.slice none 0 0,.bool false,.bool false,.bool false,.bool false,.bool false,.bool false] 51)∧
  Below w.heap.size w W0∧W0.heap.size=w.heap.size+2∧Row W0 (w.heap.size+1) (cW emW none 0)∧Row W0 w.heap.size #[.int .u8 s.kind,.string s.typ,.string s.id,.string s.frm,.string s.to,.slice A s.load.length c]:=by
 refine⟨_,rfl,((Below.refl _ _).alloc (Nat.le_refl _) _).alloc (by simp) _,by simp,?_,?_⟩
 ·exact⟨_,al_at (w.alloc (.cells #[.int .u8 s.kind,.string s.typ,.string s.id,.string s.frm,.string s.to,.slice A s.load.length c] 24)) _ _ _ (by simp) (Below.refl _ _)⟩
 ·exact(Row.new w _ _).ext ((Below.refl _ _).alloc (Nat.le_refl _) _)
end Go.Proofs.YtnfokaecobddkaaGreatDoor
end
section
namespace Go.Proofs.YtnfokaecobddkaaGreatDoor
open Go.RowKit
set_option linter.unusedSimpArgs false
set_option linter.unusedVariables false
def cR (k:ByteArray) (A':Option Addr) (n c':Nat) (x:WantL) (A:Option Addr) (c:Nat):Array Value:=#[.string k,.slice A' n c',.int .u8 x.kind,.string x.res,.string x.jid,.string x.name,.slice A x.groups.length c,.bool false,.bool false,.bool false,.bool false,.bool false,.bool x.gone]
def isR (k:ByteArray) (v:List NodeL) (a b d:ByteArray):Bool:=(k.toList == a.toList) && ((nodeAt v 0).space.toList == b.toList) && ((nodeAt v 0).name.toList == d.toList)
def ReadR (ok:Bool) (g:Nat) (k:ByteArray) (A':Option Addr) (n c':Nat) (x:WantL) (w:World) (e:Ending) (w':World):Prop:=
 e=.returned (.bool ok)∧(ok=false→Below w.heap.size w w')∧(ok=true→Below g w w'∧∃A c,Row w' g (cR k A' n c' x A c)∧x.groups.length≤c∧RdSB (g+1) w' A x.groups)
theorem ReadR.no {g n c':Nat} {k:ByteArray} {A':Option Addr} {x:WantL} {w w':World} (h:Below w.heap.size w w'):ReadR false g k A' n c' x w (.returned (.bool false)) w':=⟨rfl,fun _=>h,fun h=>by cases h⟩
theorem ReadR.yes {g n c' c:Nat} {k:ByteArray} {A' A:Option Addr} {x:WantL} {w w':World} (h:Below g w w') (hr:Row w' g (cR k A' n c' x A c)) (hl:x.groups.length≤c) (hs:RdSB (g+1) w' A x.groups):ReadR true g k A' n c' x w (.returned (.bool true)) w':=⟨rfl,fun h=>by(cases h),fun _=>⟨h,A,c,hr,hl,hs⟩⟩
set_option maxHeartbeats 4000000 in
set_option maxRecDepth 10000 in
theorem ris_any (g:Nat) (k:ByteArray) (v:List NodeL) (A':Option Addr) (c':Nat) (x:WantL) (A:Option Addr) (c:Nat) (a b d:ByteArray) (w:World) (hR:Row w g (cR k A' v.length c' x A c)) (hr:RdV w w.heap.size A' v) (h0:0 < v.length) :
  Calls Tryz.prog 95 #[.pointer (some ⟨g,0,none⟩),.string a,.string b,.string d] w fun e w'=>e=.returned (.bool (isR k v a b d))∧Below w.heap.size w w':=by
 have h0i:(0:Int) < (v.length:Int):=by omega
 obtain⟨b1,o1,rfl,hb1,hc1⟩:=hr h0
 obtain⟨d0,d1,d2,-⟩:=hc1 0 (nodeAt v 0) (node_get h0)
 rw [Nat.zero_mul,Nat.add_zero] at d0 d1 d2
 have HIS:Box (isR k v a b d=((k.toList == a.toList) && ((nodeAt v 0).space.toList == b.toList) && ((nodeAt v 0).name.toList == d.toList))):=⟨rfl⟩
 have HR:=Lib.hid hR
 generalize nodeAt v 0=n at *
 generalize isR k v a b d=r at *
 clear hc1 hr hR h0
 unfold cR at HR
 have a0:w.cell? ⟨g,0,none⟩=some _:=HR.out.at' 0 rfl
 have a1:w.cell? ⟨g,1,none⟩=some _:=HR.out.at' 1 rfl
 have a2:w.cell? ⟨g,2,none⟩=some _:=HR.out.at' 2 rfl
 have a3:w.cell? ⟨g,3,none⟩=some _:=HR.out.at' 3 rfl
 have a4:w.cell? ⟨g,4,none⟩=some _:=HR.out.at' 4 rfl
 have a5:w.cell? ⟨g,5,none⟩=some _:=HR.out.at' 5 rfl
 have a6:w.cell? ⟨g,6,none⟩=some _:=HR.out.at' 6 rfl
 have a7:w.cell? ⟨g,7,none⟩=some _:=HR.out.at' 7 rfl
 have a8:w.cell? ⟨g,8,none⟩=some _:=HR.out.at' 8 rfl
 have a9:w.cell? ⟨g,9,none⟩=some _:=HR.out.at' 9 rfl
 have a10:w.cell? ⟨g,10,none⟩=some _:=HR.out.at' 10 rfl
 have a11:w.cell? ⟨g,11,none⟩=some _:=HR.out.at' 11 rfl
 have a12:w.cell? ⟨g,12,none⟩=some _:=HR.out.at' 12 rfl
 cases c1:(k.toList == a.toList)
 all_goals (try (cases c2:(n.space.toList == b.toList)))
 all_goals (try (cases c3:(n.name.toList == d.toList)))
 all_goals
  go_enter Tryz.func95,Tryz.ntmps95
  go_wp2
  go_ret
  refine⟨?_,Below.refl _ _⟩
  simp only [HIS.out, *]
  try rfl
set_option maxHeartbeats 4000000 in
set_option maxRecDepth 10000 in
theorem rget_any (g:Nat) (k:ByteArray) (v:List NodeL) (A':Option Addr) (c':Nat) (w:World) (hR:Row w g (cR k A' v.length c' emW none 0)) (hr:RdV w w.heap.size A' v) (h0:0 < v.length) :
  Calls Tryz.prog 47 #[.pointer (some ⟨g,0,none⟩)] w (ReadR (isR k v (⟨#[103,101,116]⟩:ByteArray) rosB (⟨#[113,117,101,114,121]⟩:ByteArray)) g k A' v.length c' getW w):=by
 have HI:=Lib.hid (ris_any g k v A' c' emW none 0 (⟨#[103,101,116]⟩:ByteArray) rosB (⟨#[113,117,101,114,121]⟩:ByteArray) w hR hr h0)
 generalize isR k v (⟨#[103,101,116]⟩:ByteArray) rosB (⟨#[113,117,101,114,121]⟩:ByteArray)=ok at *
 have HR:=Lib.hid hR
 clear hr hR h0
 go_enter Tryz.func47,Tryz.ntmps47
 go_wp2_with fail
 refine HI.out.mono ?_
 rintro e w1 ⟨rfl,hb1⟩
 have HB:=Lib.hid hb1
 have R1:=Lib.hid (HR.out.ext hb1)
 have hgl:=HR.out.lt
 clear hb1 HI HR
 have a0:w1.cell? ⟨g,0,none⟩=some _:=R1.out.at' 0 rfl
 have a1:w1.cell? ⟨g,1,none⟩=some _:=R1.out.at' 1 rfl
 have a2:w1.cell? ⟨g,2,none⟩=some _:=R1.out.at' 2 rfl
 have a3:w1.cell? ⟨g,3,none⟩=some _:=R1.out.at' 3 rfl
 have a4:w1.cell? ⟨g,4,none⟩=some _:=R1.out.at' 4 rfl
 have a5:w1.cell? ⟨g,5,none⟩=some _:=R1.out.at' 5 rfl
 have a6:w1.cell? ⟨g,6,none⟩=some _:=R1.out.at' 6 rfl
 have a7:w1.cell? ⟨g,7,none⟩=some _:=R1.out.at' 7 rfl
 have a8:w1.cell? ⟨g,8,none⟩=some _:=R1.out.at' 8 rfl
 have a9:w1.cell? ⟨g,9,none⟩=some _:=R1.out.at' 9 rfl
 have a10:w1.cell? ⟨g,10,none⟩=some _:=R1.out.at' 10 rfl
 have a11:w1.cell? ⟨g,11,none⟩=some _:=R1.out.at' 11 rfl
 have a12:w1.cell? ⟨g,12,none⟩=some _:=R1.out.at' 12 rfl
 have f0:w1.frozen? ⟨g,0,none⟩=false:=R1.out.fz 0
 have f1:w1.frozen? ⟨g,1,none⟩=false:=R1.out.fz 1
 have f2:w1.frozen? ⟨g,2,none⟩=false:=R1.out.fz 2
 have f3:w1.frozen? ⟨g,3,none⟩=false:=R1.out.fz 3
 have f4:w1.frozen? ⟨g,4,none⟩=false:=R1.out.fz 4
 have f5:w1.frozen? ⟨g,5,none⟩=false:=R1.out.fz 5
 have f6:w1.frozen? ⟨g,6,none⟩=false:=R1.out.fz 6
 have f7:w1.frozen? ⟨g,7,none⟩=false:=R1.out.fz 7
 have f8:w1.frozen? ⟨g,8,none⟩=false:=R1.out.fz 8
 have f9:w1.frozen? ⟨g,9,none⟩=false:=R1.out.fz 9
 have f10:w1.frozen? ⟨g,10,none⟩=false:=R1.out.fz 10
 have f11:w1.frozen? ⟨g,11,none⟩=false:=R1.out.fz 11
 have f12:w1.frozen? ⟨g,12,none⟩=false:=R1.out.fz 12
 cases ok
 ·go_wp2
  go_ret
  exact ReadR.no HB.out
 ·go_wp2
  go_ret
  have h:=R1.out.set 2 (.int .u8 2)
  simp only [cR,List.setIfInBounds_toArray,List.set_cons_zero,List.set_cons_succ] at h
  exact ReadR.yes ((HB.out.mono (Nat.le_of_lt hgl)).setCell (p:=⟨g,2,none⟩) (Nat.le_refl _) _) h (Nat.le_refl _) (fun h0=>absurd h0 (by decide))
set_option maxHeartbeats 8000000 in
set_option maxRecDepth 10000 in
theorem rbind_any (g:Nat) (k:ByteArray) (v:List NodeL) (A':Option Addr) (c':Nat) (w:World) (hc:v.length≤c') (hR:Row w g (cR k A' v.length c' emW none 0)) (hr:RdV w g A' v) (hz:SzV 1000000000 v) (ht:treeI v=true) :
  Calls Tryz.prog 46 #[.pointer (some ⟨g,0,none⟩)] w (ReadR (isR k v (⟨#[115,101,116]⟩:ByteArray) bindB (⟨#[98,105,110,100]⟩:ByteArray)) g k A' v.length c' (bindW v) w):=by
 have hgl:=hR.lt
 have hrw:RdV w w.heap.size A' v:=hr.more (Nat.le_of_lt hgl)
 have HI:=Lib.hid (ris_any g k v A' c' emW none 0 (⟨#[115,101,116]⟩:ByteArray) bindB (⟨#[98,105,110,100]⟩:ByteArray) w hR hrw (tree_parts ht).1)
 generalize isR k v (⟨#[115,101,116]⟩:ByteArray) bindB (⟨#[98,105,110,100]⟩:ByteArray)=ok at *
 have HR:=Lib.hid hR
 have HV:=Lib.hid hr
 have HC:=Lib.hid hc
 have HZ:=Lib.hid hz
 have HT:=Lib.hid ht
 have HBW:Box (bindW v=⟨1,if firstB bindB (⟨#[114,101,115,111,117,114,99,101]⟩:ByteArray) (elemsI v) then saidI (firstV bindB (⟨#[114,101,115,111,117,114,99,101]⟩:ByteArray) (elemsI v)) else emB,emB,emB,[],false⟩):=⟨rfl⟩
 have HET:=Lib.hid (elems_tree ht)
 have HEZ:=Lib.hid (elems_szw hz ht)
 clear hr hR hrw hc hz ht
 go_enter Tryz.func46,Tryz.ntmps46
 go_wp2_with fail
 refine HI.out.mono ?_
 rintro e w1 ⟨rfl,hb1⟩
 have HB:=Lib.hid hb1
 have R1:=Lib.hid (HR.out.ext hb1)
 have hs1:=hb1.size
 clear HI HR
 cases ok
 ·go_wp2
  go_ret
  exact ReadR.no HB.out
 ·have a0:w1.cell? ⟨g,0,none⟩=some _:=R1.out.at' 0 rfl
  have a1:w1.cell? ⟨g,1,none⟩=some _:=R1.out.at' 1 rfl
  have a2:w1.cell? ⟨g,2,none⟩=some _:=R1.out.at' 2 rfl
  have a3:w1.cell? ⟨g,3,none⟩=some _:=R1.out.at' 3 rfl
  have a4:w1.cell? ⟨g,4,none⟩=some _:=R1.out.at' 4 rfl
  have a5:w1.cell? ⟨g,5,none⟩=some _:=R1.out.at' 5 rfl
  have a6:w1.cell? ⟨g,6,none⟩=some _:=R1.out.at' 6 rfl
  have a7:w1.cell? ⟨g,7,none⟩=some _:=R1.out.at' 7 rfl
  have a8:w1.cell? ⟨g,8,none⟩=some _:=R1.out.at' 8 rfl
  have a9:w1.cell? ⟨g,9,none⟩=some _:=R1.out.at' 9 rfl
  have a10:w1.cell? ⟨g,10,none⟩=some _:=R1.out.at' 10 rfl
  have a11:w1.cell? ⟨g,11,none⟩=some _:=R1.out.at' 11 rfl
  have a12:w1.cell? ⟨g,12,none⟩=some _:=R1.out.at' 12 rfl
  have f0:w1.frozen? ⟨g,0,none⟩=false:=R1.out.fz 0
  have f1:w1.frozen? ⟨g,1,none⟩=false:=R1.out.fz 1
  have f2:w1.frozen? ⟨g,2,none⟩=false:=R1.out.fz 2
  have f3:w1.frozen? ⟨g,3,none⟩=false:=R1.out.fz 3
  have f4:w1.frozen? ⟨g,4,none⟩=false:=R1.out.fz 4
  have f5:w1.frozen? ⟨g,5,none⟩=false:=R1.out.fz 5
  have f6:w1.frozen? ⟨g,6,none⟩=false:=R1.out.fz 6
  have f7:w1.frozen? ⟨g,7,none⟩=false:=R1.out.fz 7
  have f8:w1.frozen? ⟨g,8,none⟩=false:=R1.out.fz 8
  have f9:w1.frozen? ⟨g,9,none⟩=false:=R1.out.fz 9
  have f10:w1.frozen? ⟨g,10,none⟩=false:=R1.out.fz 10
  have f11:w1.frozen? ⟨g,11,none⟩=false:=R1.out.fz 11
  have f12:w1.frozen? ⟨g,12,none⟩=false:=R1.out.fz 12
  obtain⟨W2,hW2⟩:∃W2,W2=w1.setCell ⟨g,2,none⟩ (.int .u8 1):=⟨_,rfl⟩
  have hR2:Row W2 g (cR k A' v.length c' ⟨1,emB,emB,emB,[],false⟩ none 0):=by
   have h:=R1.out.set 2 (.int .u8 1)
   simp only [cR,List.setIfInBounds_toArray,List.set_cons_zero,List.set_cons_succ] at h
   rw [hW2];exact h
  have hB2:Below g w W2:=by rw [hW2];exact(HB.out.mono (Nat.le_of_lt hgl)).setCell (p:=⟨g,2,none⟩) (Nat.le_refl _) _
  have hg2:=hR2.lt
  have HE:=Lib.hid (within_any v A' c' W2 HC.out HZ.out ((HV.out.below hB2 (Nat.le_refl _)).more (Nat.le_of_lt hg2)) HT.out)
  unfold ElemsPost at HE
  generalize hev:elemsI v=ev at *
  clear hev
  have R2:=Lib.hid hR2
  have B2:=Lib.hid hB2
  have HW2:=Lib.hid hW2
  clear hW2 hR2 hB2 hb1
  go_upto_region 4 with fail
  rw [←HW2.out]
  clear a0 a1 a2 a3 a4 a5 a6 a7 a8 a9 a10 a11 a12 f0 f1 f2 f3 f4 f5 f6 f7 f8 f9 f10 f11 f12 HW2 R1
  have a0:W2.cell? ⟨g,0,none⟩=some _:=R2.out.at' 0 rfl
  have a1:W2.cell? ⟨g,1,none⟩=some _:=R2.out.at' 1 rfl
  have a2:W2.cell? ⟨g,2,none⟩=some _:=R2.out.at' 2 rfl
  have a3:W2.cell? ⟨g,3,none⟩=some _:=R2.out.at' 3 rfl
  have a4:W2.cell? ⟨g,4,none⟩=some _:=R2.out.at' 4 rfl
  have a5:W2.cell? ⟨g,5,none⟩=some _:=R2.out.at' 5 rfl
  have a6:W2.cell? ⟨g,6,none⟩=some _:=R2.out.at' 6 rfl
  have a7:W2.cell? ⟨g,7,none⟩=some _:=R2.out.at' 7 rfl
  have a8:W2.cell? ⟨g,8,none⟩=some _:=R2.out.at' 8 rfl
  have a9:W2.cell? ⟨g,9,none⟩=some _:=R2.out.at' 9 rfl
  have a10:W2.cell? ⟨g,10,none⟩=some _:=R2.out.at' 10 rfl
  have a11:W2.cell? ⟨g,11,none⟩=some _:=R2.out.at' 11 rfl
  have a12:W2.cell? ⟨g,12,none⟩=some _:=R2.out.at' 12 rfl
  go_wp2_with fail
  refine HE.out.mono ?_
  rintro e w3 ⟨A5,c5,ts,rfl,hl5,hm5,hrow5,hb3⟩
  have B3:=Lib.hid (B2.out.trans (hb3.mono (Nat.le_of_lt hg2)))
  have R3:=Lib.hid (R2.out.ext hb3)
  have HF:=Lib.hid (first_any ev A5 c5 bindB (⟨#[114,101,115,111,117,114,99,101]⟩:ByteArray) w3 (hm5 ▸ hrow5.rdw (by rw [←hm5,List.length_map])) HEZ.out.1 (fun y hy=>(tree_parts (HET.out y hy)).1))
  have HIN:=Lib.hid (fun(h:firstB bindB (⟨#[114,101,115,111,117,114,99,101]⟩:ByteArray) ev=true)=>first_in h)
  unfold FirstPost at HF
  generalize firstB bindB (⟨#[114,101,115,111,117,114,99,101]⟩:ByteArray) ev=fb at *
  generalize firstV bindB (⟨#[114,101,115,111,117,114,99,101]⟩:ByteArray) ev=fv at *
  have hg3:=R3.out.lt
  clear hb3 hrow5 hm5 HE a0 a1 a2 a3 a4 a5 a6 a7 a8 a9 a10 a11 a12
  go_wp2_with fail
  refine HF.out.mono ?_
  rintro e w4 ⟨A6,c6,rfl,hl6,hr6,hb4⟩
  have B4:=Lib.hid (B3.out.trans (hb4.mono (Nat.le_of_lt hg3)))
  have R4:=Lib.hid (R3.out.ext hb4)
  have HV6:=Lib.hid hr6
  have hg4:=R4.out.lt
  clear hb4 hr6 HF
  cases fb
  ·go_wp2
   go_ret
   rw [HBW.out]
   exact ReadR.yes B4.out R4.out (Nat.le_refl _) (fun h0=>absurd h0 (Nat.lt_irrefl 0))
  ·have hin:=HIN.out rfl
   have HSD:=Lib.hid (words_tree fv A6 c6 w4 hl6 (HEZ.out.2 fv hin) HV6.out (HET.out fv hin))
   generalize saidI fv=sd at *
   clear hin HIN HEZ HET
   go_wp2_with fail
   refine HSD.out.mono ?_
   rintro e w5 ⟨rfl,hb5⟩
   have B5:=Lib.hid (B4.out.trans (hb5.mono (Nat.le_of_lt hg4)))
   have R5:=Lib.hid (R4.out.ext hb5)
   clear hb5
   have a0:w5.cell? ⟨g,0,none⟩=some _:=R5.out.at' 0 rfl
   have a1:w5.cell? ⟨g,1,none⟩=some _:=R5.out.at' 1 rfl
   have a2:w5.cell? ⟨g,2,none⟩=some _:=R5.out.at' 2 rfl
   have a3:w5.cell? ⟨g,3,none⟩=some _:=R5.out.at' 3 rfl
   have a4:w5.cell? ⟨g,4,none⟩=some _:=R5.out.at' 4 rfl
   have a5:w5.cell? ⟨g,5,none⟩=some _:=R5.out.at' 5 rfl
   have a6:w5.cell? ⟨g,6,none⟩=some _:=R5.out.at' 6 rfl
   have a7:w5.cell? ⟨g,7,none⟩=some _:=R5.out.at' 7 rfl
   have a8:w5.cell? ⟨g,8,none⟩=some _:=R5.out.at' 8 rfl
   have a9:w5.cell? ⟨g,9,none⟩=some _:=R5.out.at' 9 rfl
   have a10:w5.cell? ⟨g,10,none⟩=some _:=R5.out.at' 10 rfl
   have a11:w5.cell? ⟨g,11,none⟩=some _:=R5.out.at' 11 rfl
   have a12:w5.cell? ⟨g,12,none⟩=some _:=R5.out.at' 12 rfl
   have f0:w5.frozen? ⟨g,0,none⟩=false:=R5.out.fz 0
   have f1:w5.frozen? ⟨g,1,none⟩=false:=R5.out.fz 1
   have f2:w5.frozen? ⟨g,2,none⟩=false:=R5.out.fz 2
   have f3:w5.frozen? ⟨g,3,none⟩=false:=R5.out.fz 3
   have f4:w5.frozen? ⟨g,4,none⟩=false:=R5.out.fz 4
   have f5:w5.frozen? ⟨g,5,none⟩=false:=R5.out.fz 5
   have f6:w5.frozen? ⟨g,6,none⟩=false:=R5.out.fz 6
   have f7:w5.frozen? ⟨g,7,none⟩=false:=R5.out.fz 7
   have f8:w5.frozen? ⟨g,8,none⟩=false:=R5.out.fz 8
   have f9:w5.frozen? ⟨g,9,none⟩=false:=R5.out.fz 9
   have f10:w5.frozen? ⟨g,10,none⟩=false:=R5.out.fz 10
   have f11:w5.frozen? ⟨g,11,none⟩=false:=R5.out.fz 11
   have f12:w5.frozen? ⟨g,12,none⟩=false:=R5.out.fz 12
   go_wp2
   go_ret
   rw [HBW.out]
   have h:=R5.out.set 3 (.string sd)
   simp only [cR,List.setIfInBounds_toArray,List.set_cons_zero,List.set_cons_succ] at h
   exact ReadR.yes (B5.out.setCell (p:=⟨g,3,none⟩) (Nat.le_refl _) _) h (Nat.le_refl _) (fun h0=>absurd h0 (Nat.lt_irrefl 0))
end Go.Proofs.YtnfokaecobddkaaGreatDoor
end
section
namespace Go.Proofs.YtnfokaecobddkaaGreatDoor
open Go.RowKit
set_option linter.unusedSimpArgs false
set_option linter.unusedVariables false
theorem tw_nil {ops:Array Oper} {w0:World} {Fin:List Ty→Prop} {rest:List Oper} {E:Env} {Ts:List Ty} {o:Oper} {x:Operand} {p:Addr} (hop:o.op=.nilCheck x) (hE:evalE E x=some (.pointer (some p))) (hw:Wd ops o E true)
  (hr:wpT Tryz.prog ops w0 Fin rest (E.put o.dst (.inl (.pointer (some p)))) (.inl (.pointer (some p)) :: Ts)):wpT Tryz.prog ops w0 Fin (o :: rest) E Ts:=
 tw_pure (.pointer (some p)) hw (fun a W hW hs=>by
  have h1:a.eval x=.pointer (some p):=evalE_of hE (by rw [hop];simp [Op.operands]) hs
  unfold execOp
  simp only [hop,h1]
  go_simp
  try rfl) hr
def put13 (w:World) (g:Nat) (u0 u1 u2 u3 u4 u5 u6 u7 u8 u9 u10:Value):World:=
 ((((((((((w.setCell ⟨g,2,none⟩ u0).setCell ⟨g,3,none⟩ u1).setCell ⟨g,4,none⟩ u2).setCell ⟨g,5,none⟩ u3).setCell ⟨g,6,none⟩ u4).setCell ⟨g,7,none⟩ u5).setCell ⟨g,8,none⟩ u6).setCell ⟨g,9,none⟩ u7).setCell ⟨g,10,none⟩ u8).setCell ⟨g,11,none⟩ u9).setCell ⟨g,12,none⟩ u10
theorem put13_below {B:Nat} {w w0:World} {g:Nat} (h:Below B w0 w) (hg:B≤g) (u0 u1 u2 u3 u4 u5 u6 u7 u8 u9 u10:Value):Below B w0 (put13 w g u0 u1 u2 u3 u4 u5 u6 u7 u8 u9 u10):=
 ((((((((((h.setCell (p:=⟨g,2,none⟩) hg u0).setCell (p:=⟨g,3,none⟩) hg u1).setCell (p:=⟨g,4,none⟩) hg u2).setCell (p:=⟨g,5,none⟩) hg u3).setCell (p:=⟨g,6,none⟩) hg u4).setCell (p:=⟨g,7,none⟩) hg u5).setCell (p:=⟨g,8,none⟩) hg u6).setCell (p:=⟨g,9,none⟩) hg u7).setCell (p:=⟨g,10,none⟩) hg u8).setCell (p:=⟨g,11,none⟩) hg u9).setCell (p:=⟨g,12,none⟩) hg u10
theorem put13_other {w:World} {g b:Nat} (hb:b≠g) (u0 u1 u2 u3 u4 u5 u6 u7 u8 u9 u10:Value):(put13 w g u0 u1 u2 u3 u4 u5 u6 u7 u8 u9 u10).heap[b]? = w.heap[b]?:=by
 unfold put13
 iterate 11 rw [heap_setCell_other _ _ b _ hb]
theorem put13_size (w:World) (g:Nat) (u0 u1 u2 u3 u4 u5 u6 u7 u8 u9 u10:Value):(put13 w g u0 u1 u2 u3 u4 u5 u6 u7 u8 u9 u10).heap.size=w.heap.size:=by simp [put13,World.setCell]
theorem put13_row {w:World} {g n c' c:Nat} {k:ByteArray} {A' A:Option Addr} {x:WantL} (h:Row w g (cR k A' n c' x A c)) (u0 u1 u2 u3 u4 u5 u6 u7 u8 u9 u10:Value):Row (put13 w g u0 u1 u2 u3 u4 u5 u6 u7 u8 u9 u10) g #[.string k,.slice A' n c',u0,u1,u2,u3,u4,u5,u6,u7,u8,u9,u10]:=by
 unfold put13
 unfold cR at h
 have h:=h.set 2 u0
 simp only [List.setIfInBounds_toArray,List.set_cons_zero,List.set_cons_succ] at h
 have h:=h.set 3 u1
 simp only [List.setIfInBounds_toArray,List.set_cons_zero,List.set_cons_succ] at h
 have h:=h.set 4 u2
 simp only [List.setIfInBounds_toArray,List.set_cons_zero,List.set_cons_succ] at h
 have h:=h.set 5 u3
 simp only [List.setIfInBounds_toArray,List.set_cons_zero,List.set_cons_succ] at h
 have h:=h.set 6 u4
 simp only [List.setIfInBounds_toArray,List.set_cons_zero,List.set_cons_succ] at h
 have h:=h.set 7 u5
 simp only [List.setIfInBounds_toArray,List.set_cons_zero,List.set_cons_succ] at h
 have h:=h.set 8 u6
 simp only [List.setIfInBounds_toArray,List.set_cons_zero,List.set_cons_succ] at h
 have h:=h.set 9 u7
 simp only [List.setIfInBounds_toArray,List.set_cons_zero,List.set_cons_succ] at h
 have h:=h.set 10 u8
 simp only [List.setIfInBounds_toArray,List.set_cons_zero,List.set_cons_succ] at h
 have h:=h.set 11 u9
 simp only [List.setIfInBounds_toArray,List.set_cons_zero,List.set_cons_succ] at h
 have h:=h.set 12 u10
 simp only [List.setIfInBounds_toArray,List.set_cons_zero,List.set_cons_succ] at h
 exact h
def OneT (b:Nat) (A9:Option Addr) (c9 b1:Nat) (A3:Option Addr) (c3:Nat) (x:List NodeL) (n:NodeL) (W:World):Prop:=
 W.cell? ⟨b,0,none⟩=some (.slice A9 x.length c9)∧RdV W W.heap.size A9 x∧W.cell? ⟨b1,0,none⟩=some (.int .u8 n.kind)∧W.cell? ⟨b1,1,none⟩=some (.string n.space)∧W.cell? ⟨b1,2,none⟩=some (.string n.name)∧
  W.cell? ⟨b1,3,none⟩=some (.slice A3 n.attrs.length c3)∧W.cell? ⟨b1,4,none⟩=some (.string n.text)∧W.cell? ⟨b1,5,none⟩=some (.int .i64 n.many)∧RdA W W.heap.size A3 n.attrs
theorem row_first {base c:Nat} {A:Option Addr} {w:World} {ts:List TreeH} {l:List (List NodeL)} {x:List NodeL} (h:RowT base (.slice A l.length c) w ts) (hm:ts.map (·.1)=l) (hx:l[0]? = some x) (h0:0 < x.length) :
  ∃b A9 c9 b1 A3 c3,A=some ⟨b,0,none⟩∧A9=some ⟨b1,0,none⟩∧x.length≤c9∧(nodeAt x 0).attrs.length≤c3∧Fresh base w (OneT b A9 c9 b1 A3 c3 x (nodeAt x 0)):=by
 subst hm
 rw [List.length_map] at h
 rw [List.getElem?_map,Option.map_eq_some_iff] at hx
 obtain⟨t,ht,rfl⟩:=hx
 have hts:0 < ts.length:=(List.getElem?_eq_some_iff.1 ht).1
 obtain⟨g,rfl,hg1,hg2⟩:=own_some h.1 hts
 obtain⟨q1,q2,l,q3,q4,q5,q6⟩:=h.2 t (List.mem_of_getElem? ht)
 have hll:l.length=t.1.length:=by rw [←q3,List.length_map]
 obtain⟨nd,hnd⟩:∃nd,l[0]? = some nd:=⟨_,List.getElem?_eq_getElem (by omega)⟩
 have hn0:nd.1=nodeAt t.1 0:=by
  unfold nodeAt
  rw [←q3,List.getD_eq_getElem?_getD,List.getElem?_map,hnd]
  rfl
 obtain⟨g1,hA9,hg3,hg4⟩:=own_some q4 h0
 refine⟨g,t.2.1,t.2.2,g1,nd.2.1,nd.2.2,rfl,hA9,q2,by rw [←hn0];exact(q6 0 nd hnd).1,fun W hs hk=>?_⟩
 have r1:=own_at h.1 hk
 have r4:=own_at q4 hk
 rw [hA9] at r4
 have hv:NewVX base (.slice (some ⟨g,0,none⟩) ts.length c) W t.2.1 t.2.2 t.1:=⟨l,q3,by rw [hA9];exact r4,q5,fun i y hi=>⟨(q6 i y hi).1,(q6 i y hi).2.at hs hk⟩⟩
 have fg:=fun r hr=>flat_get cN_len hnd r hr
 have hcl:(cellsN l).length=l.length*6:=cellsN_len l
 have cell:∀(r:Nat) (u:Value),r < 6→(cN nd)[r]? = some u→W.cell? ⟨g1,r,none⟩=some u:=fun r u hr hu=>by
  rw [r4.cellAt r (by rw [←hll];omega)]
  have:=(fg r hr).trans hu
  rw [Nat.zero_mul,Nat.zero_add] at this
  exact this
 refine⟨?_,hv.rdv,?_,?_,?_,?_,?_,?_,?_⟩
 ·rw [r1.cellAt 0 (by omega)]
  simp [cellsT,ht,cT]
 ·rw [←hn0];exact cell 0 _ (by decide) rfl
 ·rw [←hn0];exact cell 1 _ (by decide) rfl
 ·rw [←hn0];exact cell 2 _ (by decide) rfl
 ·rw [←hn0];exact cell 3 _ (by decide) rfl
 ·rw [←hn0];exact cell 4 _ (by decide) rfl
 ·rw [←hn0];exact cell 5 _ (by decide) rfl
 ·rw [←hn0];exact((q6 0 nd hnd).2.at hs hk).rda
set_option maxHeartbeats 16000000 in
set_option maxRecDepth 10000 in
theorem rset_any (g:Nat) (k:ByteArray) (v:List NodeL) (A':Option Addr) (c':Nat) (w:World) (hc:v.length≤c') (hR:Row w g (cR k A' v.length c' emW none 0)) (hr:RdV w g A' v) (hz:SzV 1000000000 v) (ht:treeI v=true) :
  Calls Tryz.prog 48 #[.pointer (some ⟨g,0,none⟩)] w (ReadR (isR k v (⟨#[115,101,116]⟩:ByteArray) rosB (⟨#[113,117,101,114,121]⟩:ByteArray) && oneIt v) g k A' v.length c' (setW v) w):=by
 have hgl:=hR.lt
 have hrw:RdV w w.heap.size A' v:=hr.more (Nat.le_of_lt hgl)
 have HE:=Lib.hid (within_any v A' c' w hc hz hrw ht)
 have HI:=Lib.hid (fun W (hW:Below w.heap.size w W)=>ris_any g k v A' c' emW none 0 (⟨#[115,101,116]⟩:ByteArray) rosB (⟨#[113,117,101,114,121]⟩:ByteArray) W (hR.ext hW) ((hrw.below hW (Nat.le_refl _)).more hW.size) (tree_parts ht).1)
 generalize isR k v (⟨#[115,101,116]⟩:ByteArray) rosB (⟨#[113,117,101,114,121]⟩:ByteArray)=ok at *
 have HR:=Lib.hid hR
 have HET:=Lib.hid (elems_tree ht)
 have HEZ:=Lib.hid (elems_szw hz ht)
 have HON:Box (oneIt v=(decide ((elemsI v).length=1) && isEl rosB (⟨#[105,116,101,109]⟩:ByteArray) (itemV v))):=⟨rfl⟩
 have HIV:Box (itemV v=(elemsI v).getD 0 []):=⟨rfl⟩
 unfold ElemsPost at HE
 unfold cR at HR
 generalize hev:elemsI v=ev at *
 clear hr hR hrw hc hz ht hev
 go_enter Tryz.func48,Tryz.ntmps48
 have a0:w.cell? ⟨g,0,none⟩=some _:=HR.out.at' 0 rfl
 have a1:w.cell? ⟨g,1,none⟩=some _:=HR.out.at' 1 rfl
 have a2:w.cell? ⟨g,2,none⟩=some _:=HR.out.at' 2 rfl
 have a3:w.cell? ⟨g,3,none⟩=some _:=HR.out.at' 3 rfl
 have a4:w.cell? ⟨g,4,none⟩=some _:=HR.out.at' 4 rfl
 have a5:w.cell? ⟨g,5,none⟩=some _:=HR.out.at' 5 rfl
 have a6:w.cell? ⟨g,6,none⟩=some _:=HR.out.at' 6 rfl
 have a7:w.cell? ⟨g,7,none⟩=some _:=HR.out.at' 7 rfl
 have a8:w.cell? ⟨g,8,none⟩=some _:=HR.out.at' 8 rfl
 have a9:w.cell? ⟨g,9,none⟩=some _:=HR.out.at' 9 rfl
 have a10:w.cell? ⟨g,10,none⟩=some _:=HR.out.at' 10 rfl
 have a11:w.cell? ⟨g,11,none⟩=some _:=HR.out.at' 11 rfl
 have a12:w.cell? ⟨g,12,none⟩=some _:=HR.out.at' 12 rfl
 go_wp2_with fail
 refine HE.out.mono ?_
 rintro e w1 ⟨A5,c5,ts,rfl,hl5,hm5,hrow5,hb1⟩
 have X1:=Lib.hid hb1
 have Q1:=Lib.hid (HR.out.ext hb1)
 have R1:=Lib.hid hrow5
 have HM:=Lib.hid hm5
 have hs1:=X1.out.size
 clear a0 a1 a2 a3 a4 a5 a6 a7 a8 a9 a10 a11 a12
 clear hb1 hrow5 hm5 HE
 go_wp2_with fail
 refine(HI.out w1 X1.out).mono ?_
 rintro e w2 ⟨rfl,hb2⟩
 have Y2:=Lib.hid (X1.out.trans (hb2.mono hs1))
 have Q2:=Lib.hid (Q1.out.ext hb2)
 have R2:=Lib.hid (R1.out.ext hb2)
 have hs2:=Y2.out.size
 clear HI hb2 X1 Q1 R1
 have hgl2:=Q2.out.lt
 cases ok
 ·go_wp2
  go_ret
  exact ReadR.no Y2.out
 by_cases h1:ev.length=1
 ·obtain⟨x,hx⟩:∃x,ev[0]? = some x:=⟨_,List.getElem?_eq_getElem (by omega)⟩
  have hxi:itemV v=x:=by rw [HIV.out,List.getD_eq_getElem?_getD,hx];rfl
  have hxt:=HET.out x (List.mem_of_getElem? hx)
  have hxz:=HEZ.out.2 x (List.mem_of_getElem? hx)
  have hx0:=(tree_parts hxt).1
  have hx0i:(0:Int) < (x.length:Int):=by omega
  obtain⟨b,A9,c9,b1,A3,c3,hA5,rfl,hl',hl3,hfr⟩:=row_first R2.out HM.out hx hx0
  subst hA5
  obtain⟨e0,hA',d0,d1,d2,d3,d4,d5,hA3⟩:=hfr.now
  have HA3:=Lib.hid hA3
  have HFR:=Lib.hid hfr
  have HNN:Box (nodeAt x 0=nodeAt x 0):=⟨rfl⟩
  have HEL:Box (isEl rosB (⟨#[105,116,101,109]⟩:ByteArray) x=(((nodeAt x 0).space.toList == [106,97,98,98,101,114,58,105,113,58,114,111,115,116,101,114]) && ((nodeAt x 0).name.toList == [105,116,101,109]))):=⟨by unfold isEl;rw [rosL,itemL]⟩
  generalize hnn:nodeAt x 0=n at *
  have HN1:=Lib.hid hnn
  have HON1:Box (oneIt v=isEl rosB (⟨#[105,116,101,109]⟩:ByteArray) x):=⟨by rw [HON.out,hxi,decide_eq_true h1,Bool.true_and]⟩
  have HXI:=Lib.hid hxi
  have HXT:=Lib.hid hxt
  have HXZ:=Lib.hid hxz
  have hN:((ev.length:Int) != 1)=false:=by simp [h1]
  have hNi:(0:Int) < (ev.length:Int):=by omega
  clear hxi hx hxt hxz hA' hfr hA3 hnn HNN
  cases h2:(n.space.toList == [106,97,98,98,101,114,58,105,113,58,114,111,115,116,101,114])
  ·go_wp2
   go_ret
   rw [HON1.out,HEL.out,h2]
   exact ReadR.no Y2.out
  ·cases h3:(n.name.toList == [105,116,101,109])
   ·go_wp2
    go_ret
    rw [HON1.out,HEL.out,h2,h3]
    exact ReadR.no Y2.out
   ·have HO1:Box (oneIt v=true):=⟨by rw [HON1.out,HEL.out,h2,h3];rfl⟩
    have e3:=d3
    obtain⟨W2,hW2⟩:∃W2,W2=w2.alloc (.cells #[.int .u8 n.kind,.string n.space,.string n.name,.slice A3 n.attrs.length c3,.string n.text,.int .i64 n.many] 69):=⟨_,rfl⟩
    have hX2:Below w2.heap.size w2 W2:=by rw [hW2];exact(Below.refl _ _).alloc (Nat.le_refl _) _
    have hN2:NRow W2 w2.heap.size n A3 c3:=by rw [hW2];exact NRow.new _ _ _ _ _
    have HRA:=Lib.hid ((HA3.out.below hX2 (Nat.le_refl _)).more hX2.size)
    have X2:=Lib.hid (Y2.out.trans (hX2.mono Y2.out.size))
    have Z2:=Lib.hid hX2
    have Q3:=Lib.hid (Q2.out.ext hX2)
    have N2:=Lib.hid hN2
    have hat:=(szv_get HXZ.out (node_get hx0)).2.2.2.1.1
    rw [HN1.out] at hat
    have HFD:=Lib.hid (fun W (hW:Ext W2.drew W) nm=>find_any n A3 c3 nm W ((HRA.out.below (ext_below hW) (Nat.le_refl _)).more (ext_below hW).size) hl3 hat)
    have EF:=Lib.hid (enters_of (P:=Tryz.prog) Tryz.func39 (by kernel_rfl) rfl)
    have G5:=Lib.hid (fun W (hW:Ext W2.drew W)=>N2.out.ext (ext_below hW))
    have HGN:Box (goneI v=((findI n (⟨#[115,117,98,115,99,114,105,112,116,105,111,110]⟩:ByteArray)).toList == [114,101,109,111,118,101])):=⟨by unfold goneI;rw [HXI.out,HN1.out]⟩
    obtain⟨bg,hbg⟩:∃bg,((findI n (⟨#[115,117,98,115,99,114,105,112,116,105,111,110]⟩:ByteArray)).toList == [114,101,109,111,118,101])=bg:=⟨_,rfl⟩
    have HBG:=Lib.hid (show((findI n (⟨#[115,117,98,115,99,114,105,112,116,105,111,110]⟩:ByteArray)).toList == ((⟨#[114,101,109,111,118,101]⟩:ByteArray):ByteArray).toList)=bg by rw [removeL];exact hbg)
    rw [hbg] at HGN
    have HJ:Box (findI n (⟨#[106,105,100]⟩:ByteArray)=findI n (⟨#[106,105,100]⟩:ByteArray)):=⟨rfl⟩
    generalize hj:findI n (⟨#[106,105,100]⟩:ByteArray)=jd at HJ
    have HJD:=Lib.hid hj
    have HAT:=Lib.hid hat
    have hs3:=hX2.size
    clear hX2 hN2 hbg hj hat
    go_upto_region 5 with fail
    rw [←hW2]
    clear hW2 d0 d1 d2 d3 d4 d5 e3
    refine wp_region_typed_tail 8 rfl (by kernel_rfl) (by kernel_rfl) (by kernel_rfl) ?_
    repeat (first|refine tw_ldN rfl rfl G5.out (wdA rfl) ?_|refine tw_fnB #[encN n A3 c3,.string (⟨#[106,105,100]⟩:ByteArray)] (.string jd) rfl (fun W=>EF.out _ W) rfl (wdA rfl) (fun W hW=>by rw [←HJD.out];exact HFD.out W hW _) ?_|refine tw_fnB #[encN n A3 c3,.string (⟨#[115,117,98,115,99,114,105,112,116,105,111,110]⟩:ByteArray)] (.string (findI n (⟨#[115,117,98,115,99,114,105,112,116,105,111,110]⟩:ByteArray))) rfl (fun W=>EF.out _ W) rfl (wdA rfl) (fun W hW=>HFD.out W hW _) ?_|refine tw_bldI jd rfl rfl (wdA rfl) ?_|refine tw_eqS _ (⟨#[114,101,109,111,118,101]⟩:ByteArray) bg HBG.out rfl rfl rfl (wdA rfl) ?_|refine tw_bldW jd bg rfl rfl rfl (wdA rfl) ?_|refine tw_nil rfl rfl (wdA rfl) ?_|refine tw_skip (wd_no rfl rfl rfl) ?_|refine tw_mv (.inl rfl) rfl (wdA rfl) ?_|refine tw_mv (.inr rfl) rfl (wdA rfl) ?_|refine tw_pickL rfl rfl rfl (wdA rfl) ?_|refine tw_op1 _ rfl rfl (wdA rfl) (fun ρ W hW h1=>by simp only [execOp,h1];go_simp;first|done|rfl) ?_|refine tw_op2 _ rfl rfl rfl (wdA rfl) (fun ρ W hW h1 h2=>by simp only [execOp,h1,h2];go_simp;first|done|rfl) ?_)
    dsimp only [wpT,List.reverse,List.reverseAux,FinT,PtW,List.take,List.drop]
    intro W5 hW5 _
    simp only [Act.put,List.setIfInBounds_toArray,List.set_cons_zero,List.set_cons_succ]
    have hb5:Below W2.heap.size W2 W5:=ext_below hW5
    have X5:=Lib.hid (X2.out.trans (hb5.mono X2.out.size))
    have Z5:=Lib.hid (Z2.out.trans (hb5.mono hs3))
    have V5:=Lib.hid hb5
    have Q5:=Lib.hid (Q3.out.ext hb5)
    have N5:=Lib.hid (N2.out.ext hb5)
    clear hW5 hb5 G5 HFD EF Q3 N2
    obtain⟨W6,hW6⟩:∃W6,W6=put13 W5 g (.int .u8 3) (.string emB) (.string jd) (.string emB) (.slice none 0 0) (.bool false) (.bool false) (.bool false) (.bool false) (.bool false) (.bool bg):=⟨_,rfl⟩
    have hg2:g < w2.heap.size:=by omega
    have Q6:Hid (Row W6 g #[.string k,.slice A' v.length c',.int .u8 3,.string ⟨#[]⟩,.string jd,.string ⟨#[]⟩,.slice none 0 0,.bool false,.bool false,.bool false,.bool false,.bool false,.bool bg]):=Lib.hid (by rw [hW6];exact put13_row (x:=emW) (A:=none) (c:=0) Q5.out _ _ _ _ _ _ _ _ _ _ _)
    have X6:Hid (Below g w W6):=Lib.hid (by rw [hW6];exact put13_below (X5.out.mono (Nat.le_of_lt hgl)) (Nat.le_refl _) _ _ _ _ _ _ _ _ _ _ _)
    have K6:Hid (∀b,b < w2.heap.size→b≠g→W6.heap[b]? = w2.heap[b]?):=Lib.hid (fun b hb1 hb2=>by rw [hW6,put13_other hb2];exact Z5.out.block b hb1)
    have S6:Hid (w2.heap.size≤W6.heap.size):=Lib.hid (by rw [hW6,put13_size];exact Z5.out.size)
    have N6:Hid (NRow W6 w2.heap.size n A3 c3):=Lib.hid (by obtain⟨t,ht⟩:=N5.out;exact⟨t,by rw [hW6,put13_other (by omega)];exact ht⟩)
    unfold put13 at hW6
    have HW6:=Lib.hid hW6
    clear hW6
    have z0:W5.cell? ⟨g,0,none⟩=some _:=Q5.out.at' 0 rfl
    have z1:W5.cell? ⟨g,1,none⟩=some _:=Q5.out.at' 1 rfl
    have z2:W5.cell? ⟨g,2,none⟩=some _:=Q5.out.at' 2 rfl
    have z3:W5.cell? ⟨g,3,none⟩=some _:=Q5.out.at' 3 rfl
    have z4:W5.cell? ⟨g,4,none⟩=some _:=Q5.out.at' 4 rfl
    have z5:W5.cell? ⟨g,5,none⟩=some _:=Q5.out.at' 5 rfl
    have z6:W5.cell? ⟨g,6,none⟩=some _:=Q5.out.at' 6 rfl
    have z7:W5.cell? ⟨g,7,none⟩=some _:=Q5.out.at' 7 rfl
    have z8:W5.cell? ⟨g,8,none⟩=some _:=Q5.out.at' 8 rfl
    have z9:W5.cell? ⟨g,9,none⟩=some _:=Q5.out.at' 9 rfl
    have z10:W5.cell? ⟨g,10,none⟩=some _:=Q5.out.at' 10 rfl
    have z11:W5.cell? ⟨g,11,none⟩=some _:=Q5.out.at' 11 rfl
    have z12:W5.cell? ⟨g,12,none⟩=some _:=Q5.out.at' 12 rfl
    have f0:W5.frozen? ⟨g,0,none⟩=false:=Q5.out.fz 0
    have f1:W5.frozen? ⟨g,1,none⟩=false:=Q5.out.fz 1
    have f2:W5.frozen? ⟨g,2,none⟩=false:=Q5.out.fz 2
    have f3:W5.frozen? ⟨g,3,none⟩=false:=Q5.out.fz 3
    have f4:W5.frozen? ⟨g,4,none⟩=false:=Q5.out.fz 4
    have f5:W5.frozen? ⟨g,5,none⟩=false:=Q5.out.fz 5
    have f6:W5.frozen? ⟨g,6,none⟩=false:=Q5.out.fz 6
    have f7:W5.frozen? ⟨g,7,none⟩=false:=Q5.out.fz 7
    have f8:W5.frozen? ⟨g,8,none⟩=false:=Q5.out.fz 8
    have f9:W5.frozen? ⟨g,9,none⟩=false:=Q5.out.fz 9
    have f10:W5.frozen? ⟨g,10,none⟩=false:=Q5.out.fz 10
    have f11:W5.frozen? ⟨g,11,none⟩=false:=Q5.out.fz 11
    have f12:W5.frozen? ⟨g,12,none⟩=false:=Q5.out.fz 12
    dsimp only [encW,wantG]
    go_upto_region 6 with fail
    rw [←HW6.out]
    clear z0 z1 z2 z3 z4 z5 z6 z7 z8 z9 z10 z11 z12 f0 f1 f2 f3 f4 f5 f6 f7 f8 f9 f10 f11 f12
    clear HW6 Q5 N5 X5 Z5 V5
    have hns:∀b,w.heap.size≤b→b < w2.heap.size→W6.heap[b]? = w2.heap[b]?:=fun b h1 h2=>K6.out b h2 (by omega)
    have HT6:=Lib.hid (HFR.out W6 S6.out hns)
    have hgW6:=Q6.out.lt
    have HGE:Hid (g < w.heap.size):=Lib.hid hgl
    clear hns
    cases bg
    ·have HF2:=Lib.hid (find_any n A3 c3 (⟨#[110,97,109,101]⟩:ByteArray) W6 HT6.out.2.2.2.2.2.2.2.2 hl3 HAT.out)
     unfold encN at HF2
     generalize hnm:findI n (⟨#[110,97,109,101]⟩:ByteArray)=nm at HF2
     have HNM:=Lib.hid hnm
     clear hnm HT6
     have NR6:Hid (Row W6 w2.heap.size #[.int .u8 n.kind,.string n.space,.string n.name,.slice A3 n.attrs.length c3,.string n.text,.int .i64 n.many]):=Lib.hid N6.out
     have q0:W6.cell? ⟨w2.heap.size,0,none⟩=some _:=NR6.out.at' 0 rfl
     have q1:W6.cell? ⟨w2.heap.size,1,none⟩=some _:=NR6.out.at' 1 rfl
     have q2:W6.cell? ⟨w2.heap.size,2,none⟩=some _:=NR6.out.at' 2 rfl
     have q3:W6.cell? ⟨w2.heap.size,3,none⟩=some _:=NR6.out.at' 3 rfl
     have q4:W6.cell? ⟨w2.heap.size,4,none⟩=some _:=NR6.out.at' 4 rfl
     have q5:W6.cell? ⟨w2.heap.size,5,none⟩=some _:=NR6.out.at' 5 rfl
     have z0:W6.cell? ⟨g,0,none⟩=some _:=Q6.out.at' 0 rfl
     have z1:W6.cell? ⟨g,1,none⟩=some _:=Q6.out.at' 1 rfl
     have z2:W6.cell? ⟨g,2,none⟩=some _:=Q6.out.at' 2 rfl
     have z3:W6.cell? ⟨g,3,none⟩=some _:=Q6.out.at' 3 rfl
     have z4:W6.cell? ⟨g,4,none⟩=some _:=Q6.out.at' 4 rfl
     have z5:W6.cell? ⟨g,5,none⟩=some _:=Q6.out.at' 5 rfl
     have z6:W6.cell? ⟨g,6,none⟩=some _:=Q6.out.at' 6 rfl
     have z7:W6.cell? ⟨g,7,none⟩=some _:=Q6.out.at' 7 rfl
     have z8:W6.cell? ⟨g,8,none⟩=some _:=Q6.out.at' 8 rfl
     have z9:W6.cell? ⟨g,9,none⟩=some _:=Q6.out.at' 9 rfl
     have z10:W6.cell? ⟨g,10,none⟩=some _:=Q6.out.at' 10 rfl
     have z11:W6.cell? ⟨g,11,none⟩=some _:=Q6.out.at' 11 rfl
     have z12:W6.cell? ⟨g,12,none⟩=some _:=Q6.out.at' 12 rfl
     go_wp2_with fail
     refine HF2.out.mono ?_
     rintro e w7 ⟨rfl,hb7⟩
     have X7:=Lib.hid (X6.out.trans (hb7.mono (Nat.le_of_lt hgW6)))
     have K7:Hid (∀b,b < w2.heap.size→b≠g→w7.heap[b]? = w2.heap[b]?):=Lib.hid (fun b hb1 hb2=>(hb7.block b (Nat.lt_of_lt_of_le hb1 S6.out)).trans (K6.out b hb1 hb2))
     have S7:Hid (w2.heap.size≤w7.heap.size):=Lib.hid (Nat.le_trans S6.out hb7.size)
     have Q7:=Lib.hid (Q6.out.ext hb7)
     clear z0 z1 z2 z3 z4 z5 z6 z7 z8 z9 z10 z11 z12 q0 q1 q2 q3 q4 q5
     clear hb7 HF2 NR6 N6 K6 S6 X6 Q6
     have z0:w7.cell? ⟨g,0,none⟩=some _:=Q7.out.at' 0 rfl
     have z1:w7.cell? ⟨g,1,none⟩=some _:=Q7.out.at' 1 rfl
     have z2:w7.cell? ⟨g,2,none⟩=some _:=Q7.out.at' 2 rfl
     have z3:w7.cell? ⟨g,3,none⟩=some _:=Q7.out.at' 3 rfl
     have z4:w7.cell? ⟨g,4,none⟩=some _:=Q7.out.at' 4 rfl
     have z5:w7.cell? ⟨g,5,none⟩=some _:=Q7.out.at' 5 rfl
     have z6:w7.cell? ⟨g,6,none⟩=some _:=Q7.out.at' 6 rfl
     have z7:w7.cell? ⟨g,7,none⟩=some _:=Q7.out.at' 7 rfl
     have z8:w7.cell? ⟨g,8,none⟩=some _:=Q7.out.at' 8 rfl
     have z9:w7.cell? ⟨g,9,none⟩=some _:=Q7.out.at' 9 rfl
     have z10:w7.cell? ⟨g,10,none⟩=some _:=Q7.out.at' 10 rfl
     have z11:w7.cell? ⟨g,11,none⟩=some _:=Q7.out.at' 11 rfl
     have z12:w7.cell? ⟨g,12,none⟩=some _:=Q7.out.at' 12 rfl
     have f0:w7.frozen? ⟨g,0,none⟩=false:=Q7.out.fz 0
     have f1:w7.frozen? ⟨g,1,none⟩=false:=Q7.out.fz 1
     have f2:w7.frozen? ⟨g,2,none⟩=false:=Q7.out.fz 2
     have f3:w7.frozen? ⟨g,3,none⟩=false:=Q7.out.fz 3
     have f4:w7.frozen? ⟨g,4,none⟩=false:=Q7.out.fz 4
     have f5:w7.frozen? ⟨g,5,none⟩=false:=Q7.out.fz 5
     have f6:w7.frozen? ⟨g,6,none⟩=false:=Q7.out.fz 6
     have f7:w7.frozen? ⟨g,7,none⟩=false:=Q7.out.fz 7
     have f8:w7.frozen? ⟨g,8,none⟩=false:=Q7.out.fz 8
     have f9:w7.frozen? ⟨g,9,none⟩=false:=Q7.out.fz 9
     have f10:w7.frozen? ⟨g,10,none⟩=false:=Q7.out.fz 10
     have f11:w7.frozen? ⟨g,11,none⟩=false:=Q7.out.fz 11
     have f12:w7.frozen? ⟨g,12,none⟩=false:=Q7.out.fz 12
     obtain⟨W8,hW8⟩:∃W8,W8=w7.setCell ⟨g,5,none⟩ (.string nm):=⟨_,rfl⟩
     have Q8:Hid (Row W8 g #[.string k,.slice A' v.length c',.int .u8 3,.string ⟨#[]⟩,.string jd,.string nm,.slice none 0 0,.bool false,.bool false,.bool false,.bool false,.bool false,.bool false]):=Lib.hid (by
      have h:=Q7.out.set 5 (.string nm)
      simp only [List.setIfInBounds_toArray,List.set_cons_zero,List.set_cons_succ] at h
      rw [hW8];exact h)
     have X8:Hid (Below g w W8):=Lib.hid (by rw [hW8];exact X7.out.setCell (p:=⟨g,5,none⟩) (Nat.le_refl _) _)
     have K8:Hid (∀b,b < w2.heap.size→b≠g→W8.heap[b]? = w2.heap[b]?):=Lib.hid (fun b hb1 hb2=>by rw [hW8];exact(heap_setCell_other w7 _ b _ hb2).trans (K7.out b hb1 hb2))
     have S8:Hid (w2.heap.size≤W8.heap.size):=Lib.hid (by rw [hW8];simpa [World.setCell] using S7.out)
     have HT8:=Lib.hid (HFR.out W8 S8.out (fun b h1 h2=>K8.out b h2 (by have:=HGE.out;omega)))
     have HE2:=Lib.hid (within_any x (some ⟨b1,0,none⟩) c9 W8 hl' HXZ.out HT8.out.2.1 HXT.out)
     have e8:=HT8.out.1
     unfold ElemsPost at HE2
     generalize hev2:elemsI x=eg at HE2
     have HEG:=Lib.hid hev2
     go_upto_region 9 with fail
     rw [←hW8]
     clear z0 z1 z2 z3 z4 z5 z6 z7 z8 z9 z10 z11 z12 f0 f1 f2 f3 f4 f5 f6 f7 f8 f9 f10 f11 f12
     clear hW8 hev2 HT8
     go_wp2_with fail
     refine HE2.out.mono ?_
     rintro e w9 ⟨A8,c8,ts8,rfl,hl8,hm8,hrow8,hb9⟩
     have hg8:=Q8.out.lt
     have X9:=Lib.hid (X8.out.trans (hb9.mono (Nat.le_of_lt hg8)))
     have Q9:=Lib.hid (Q8.out.ext hb9)
     have R9:=Lib.hid hrow8
     have HM8:=Lib.hid hm8
     have hs9:=hb9.size
     have hg9':=Q9.out.lt
     have hl1:eg.length≤1000000000:=by
      have h:=(elems_szw HXZ.out HXT.out).1
      rw [HEG.out] at h;exact h
     have HGT:Hid (∀y∈eg,treeI y=true):=Lib.hid (by have h:=elems_tree HXT.out;rw [HEG.out] at h;exact h)
     have HGZ:Hid (∀y∈eg,SzV 1000000000 y):=Lib.hid (by have h:=(elems_szw HXZ.out HXT.out).2;rw [HEG.out] at h;exact h)
     have HWG:Hid (setW v=⟨3,emB,jd,nm,groupsW eg,false⟩):=Lib.hid (by unfold setW;rw [HGN.out,HXI.out,HN1.out,HJD.out,HNM.out,HEG.out];rfl)
     clear hb9 hrow8 hm8 HE2 HET HEZ e8 K8 S8 X8 K7 S7 X7 Q7 R2 HM HFR HRA HA3 e0
     go_wp2
     go_loopw [80] (fun s10 wr=>∃(j:Nat) (Aq:Option Addr) (cq:Nat),j≤eg.length∧s10=.int .i64 j∧Hid (Below g w wr)∧Hid (wr.ownsRow w9.heap.size 9 1 (.slice Aq (groupsK eg j).length cq) (groupsK eg j).length (cellsS (groupsK eg j)))∧
      Hid (Row wr g #[.string k,.slice A' v.length c',.int .u8 3,.string ⟨#[]⟩,.string jd,.string nm,.slice Aq (groupsK eg j).length cq,.bool false,.bool false,.bool false,.bool false,.bool false,.bool false])∧Hid (w9.heap.size≤wr.heap.size)∧Hid (∀b,b < w9.heap.size→b≠g→wr.heap[b]? = w9.heap[b]?)) (fun s10 _=>eg.length - (intOf s10).toNat)
     case atStart=>exact⟨0,none,0,Nat.zero_le _,rfl,X9,World.ownsRow_nil _ _ _ _,Q9,Lib.hid (Nat.le_refl _),Lib.hid (fun _ _ _=>rfl)⟩
     case round=>
      obtain⟨j,Aq,cq,hk,rfl,HB,HO,HS,HSZ,HK⟩:=hrel
      by_cases hlt:j < eg.length
      ·obtain⟨y,hy⟩:∃y,eg[j]? = some y:=⟨_,List.getElem?_eq_getElem hlt⟩
       have hyt:=HGT.out y (List.mem_of_getElem? hy)
       have hyz:=HGZ.out y (List.mem_of_getElem? hy)
       have hy0:=(tree_parts hyt).1
       have hy0i:(0:Int) < (y.length:Int):=by omega
       have hre:=rdw_keep R9.out (by rw [←HM8.out,List.length_map]) hg8 HSZ.out HK.out
       rw [HM8.out] at hre
       obtain⟨b2,o2,rfl,hb2,hc2⟩:=hre (by omega)
       obtain⟨A4,c4,q0,hl4,hA4⟩:=hc2 j y hy
       have HA4:=Lib.hid hA4
       obtain⟨b3,o3,rfl,hb3,hc3⟩:=hA4 hy0
       obtain⟨r0,r1,r2,-⟩:=hc3 0 (nodeAt y 0) (node_get hy0)
       rw [Nat.zero_mul,Nat.add_zero] at r0 r1 r2
       have HIG:Box (isEl rosB (⟨#[103,114,111,117,112]⟩:ByteArray) y=(((nodeAt y 0).space.toList == [106,97,98,98,101,114,58,105,113,58,114,111,115,116,101,114]) && ((nodeAt y 0).name.toList == [103,114,111,117,112]))):=⟨by unfold isEl;rw [rosL,groupL]⟩
       generalize hn2:nodeAt y 0=n2 at *
       have HSC:=Lib.hid (groupsK_succ eg hy)
       have HSD:=Lib.hid (fun W (hW:Ext wr.drew W)=>words_tree y (some ⟨b3,o3,none⟩) c4 W hl4 hyz ((HA4.out.below (ext_below hW) (Nat.le_refl _)).more (ext_below hW).size) hyt)
       clear hc2 hc3 hA4 hn2 hyt hyz hre
       cases i1:(n2.space.toList == [106,97,98,98,101,114,58,105,113,58,114,111,115,116,101,114])
       ·have HP:Hid (groupsK eg (j+1)=groupsK eg j):=Lib.hid (by rw [HSC.out,HIG.out,i1];rfl)
        go_wp2
        go_roundw
        case rel=>exact⟨j+1,Aq,cq,by omega,by go_num,HB,by rw [HP.out];exact HO,by rw [HP.out];exact HS,HSZ,HK⟩
        case measure=>simp [intOf];omega
       ·cases i2:(n2.name.toList == [103,114,111,117,112])
        ·have HP:Hid (groupsK eg (j+1)=groupsK eg j):=Lib.hid (by rw [HSC.out,HIG.out,i1,i2];rfl)
         go_wp2
         go_roundw
         case rel=>exact⟨j+1,Aq,cq,by omega,by go_num,HB,by rw [HP.out];exact HO,by rw [HP.out];exact HS,HSZ,HK⟩
         case measure=>simp [intOf];omega
        ·have HP:Hid (groupsK eg (j+1)=groupsK eg j++[saidI y]):=Lib.hid (by rw [HSC.out,HIG.out,i1,i2];rfl)
         have hgq:(groupsK eg j).length≤1000000000:=by
          unfold groupsK groupsW
          rw [List.length_map]
          have h1:=List.length_filter_le (isEl rosB (⟨#[103,114,111,117,112]⟩:ByteArray)) (eg.take j)
          rw [List.length_take] at h1
          omega
         have q4:=HS.out.at' 6 rfl
         have hgr:=HS.out.lt
         have ES:=Lib.hid (enters_of (P:=Tryz.prog) Tryz.func64 (by kernel_rfl) rfl)
         have G1:=Lib.hid (fun W (hW:Ext wr.drew W)=>((ext_below hW).cell (p:=⟨g,6,none⟩) hgr).trans q4)
         clear q4
         go_wp2_with fail
         refine wp_region_typed_lazy 10 0 rfl (by kernel_rfl) (by kernel_rfl) (by kernel_rfl) ?_
         repeat (first|refine tw_ldL rfl rfl G1.out (wdA rfl) ?_|refine tw_fnB #[.slice (some ⟨b3,o3,none⟩) y.length c4] (.string (saidI y)) rfl (fun W=>ES.out _ W) rfl (wdA rfl) (fun W hW=>HSD.out W hW) ?_|refine tw_newS (saidI y) rfl rfl (wdA rfl) ?_|refine tw_nil rfl rfl (wdA rfl) ?_|refine tw_skip (wd_no rfl rfl rfl) ?_|refine tw_mv (.inl rfl) rfl (wdA rfl) ?_|refine tw_mv (.inr rfl) rfl (wdA rfl) ?_|refine tw_pickL rfl rfl rfl (wdA rfl) ?_|refine tw_op1 _ rfl rfl (wdA rfl) (fun ρ W hW h1=>by simp only [execOp,h1];go_simp;first|done|rfl) ?_|refine tw_op2 _ rfl rfl rfl (wdA rfl) (fun ρ W hW h1 h2=>by simp only [execOp,h1,h2];go_simp;first|done|rfl) ?_)
         dsimp only [wpT,List.reverse,List.reverseAux,FinT,SlS1,List.take,List.drop,List.eraseIdx,List.append]
         refine⟨?_,?_⟩
         all_goals
          intro u9 W5 hW5 hu9
          obtain⟨g9,rfl,hg99⟩:=hu9.2
          simp only [Act.put,List.setIfInBounds_toArray,List.set_cons_zero,List.set_cons_succ]
          have hb5:Below wr.heap.size wr W5:=ext_below hW5
          have HO5:=Lib.hid (own_keep HO.out hb5)
          have HRD:=Lib.hid (rd_s1 (s:=saidI y) hg99)
          have HSZ5:Hid (w9.heap.size≤W5.heap.size):=Lib.hid (Nat.le_trans HSZ.out hb5.size)
          have HB5:=Lib.hid (HB.out.trans (hb5.mono (Nat.le_of_lt hgr)))
          have HS5:=Lib.hid (HS.out.ext hb5)
          have HK5:Hid (∀b,b < w9.heap.size→b≠g→W5.heap[b]? = w9.heap[b]?):=Lib.hid (fun b hb1 hb2=>(hb5.block b (Nat.lt_of_lt_of_le hb1 HSZ.out)).trans (HK.out b hb1 hb2))
          clear hW5 hu9 hg99 hb5 G1 HSD ES
          go_wp2_with (at_builtin;refine app_strs rfl _ _ rfl w9.heap.size _ (groupsK eg j).length (groupsK eg j) rfl HO5.out _ _ _ _ [saidI y] rfl HRD.out (by omega) HSZ5.out ?_)
          intro v2 w2 ow2 hg2 _
          obtain⟨A2,c2,rfl⟩:=own_form ow2
          have k2:=Lib.hid ((Below.refl w9.heap.size W5).grown hg2 HSZ5.out (fun q hq=>(HO5.out.lt q hq).1))
          have HO2:=Lib.hid ow2
          have HB2:Hid (Below g w w2):=Lib.hid (HB5.out.trans (k2.out.mono (by omega)))
          have HS2:=Lib.hid (HS5.out.extB k2.out hg9')
          have HSZ2:Hid (w9.heap.size≤w2.heap.size):=Lib.hid (Nat.le_trans HSZ5.out k2.out.size)
          have HK2:Hid (∀b,b < w9.heap.size→b≠g→w2.heap[b]? = w9.heap[b]?):=Lib.hid (fun b hb1 hb2=>(k2.out.block b hb1).trans (HK5.out b hb1 hb2))
          have e4:=HS2.out.at' 6 rfl
          have f4:=HS2.out.fz 6
          clear ow2 hg2 k2 HO5 HRD
          go_wp2
          go_roundw
          case rel=>
           refine⟨j+1,A2,c2,by omega,by go_num,Lib.hid (HB2.out.setCell (p:=⟨g,6,none⟩) (Nat.le_refl _) _),Lib.hid ?_,Lib.hid ?_,Lib.hid (by simpa [World.setCell] using HSZ2.out),Lib.hid (fun b hb1 hb2=>(heap_setCell_other w2 _ b _ hb2).trans (HK2.out b hb1 hb2))⟩
           ·rw [HP.out,List.length_append]
            exact own_set HO2.out (fun e=>by have:=(HO2.out.lt _ e).1;omega) _
           ·rw [HP.out,List.length_append]
            exact HS2.out.set 6 _
          case measure=>simp [intOf];omega
      ·obtain rfl:j=eg.length:=by omega
       have hgk:groupsK eg eg.length=groupsW eg:=by unfold groupsK;rw [List.take_length]
       rw [hgk] at HO HS
       go_wp2
       go_ret
       rw [HO1.out,HWG.out]
       exact ReadR.yes HB.out HS.out (own_le HO.out) ((rds_own HO.out rfl).mono (by omega))
    ·have HWG:Hid (setW v=wantG jd true):=Lib.hid (by unfold setW;rw [HGN.out,if_pos rfl,HXI.out,HN1.out,HJD.out];rfl)
     have z0:W6.cell? ⟨g,0,none⟩=some _:=Q6.out.at' 0 rfl
     have z1:W6.cell? ⟨g,1,none⟩=some _:=Q6.out.at' 1 rfl
     have z2:W6.cell? ⟨g,2,none⟩=some _:=Q6.out.at' 2 rfl
     have z3:W6.cell? ⟨g,3,none⟩=some _:=Q6.out.at' 3 rfl
     have z4:W6.cell? ⟨g,4,none⟩=some _:=Q6.out.at' 4 rfl
     have z5:W6.cell? ⟨g,5,none⟩=some _:=Q6.out.at' 5 rfl
     have z6:W6.cell? ⟨g,6,none⟩=some _:=Q6.out.at' 6 rfl
     have z7:W6.cell? ⟨g,7,none⟩=some _:=Q6.out.at' 7 rfl
     have z8:W6.cell? ⟨g,8,none⟩=some _:=Q6.out.at' 8 rfl
     have z9:W6.cell? ⟨g,9,none⟩=some _:=Q6.out.at' 9 rfl
     have z10:W6.cell? ⟨g,10,none⟩=some _:=Q6.out.at' 10 rfl
     have z11:W6.cell? ⟨g,11,none⟩=some _:=Q6.out.at' 11 rfl
     have z12:W6.cell? ⟨g,12,none⟩=some _:=Q6.out.at' 12 rfl
     go_wp2
     go_ret
     rw [HO1.out,HWG.out]
     exact ReadR.yes X6.out Q6.out (Nat.le_refl _) (fun h0=>absurd h0 (Nat.lt_irrefl 0))
 ·have hN:((ev.length:Int) != 1)=true:=by rw [bne_iff_ne];omega
  have HO1:Hid (oneIt v=false):=Lib.hid (by rw [HON.out,decide_eq_false h1];rfl)
  go_wp2
  go_ret
  rw [HO1.out]
  exact ReadR.no Y2.out
end Go.Proofs.YtnfokaecobddkaaGreatDoor
end
