/- Layer 4 (chain): the keys of a seed. -/
import Derived.Test.YtonblhannoinfaaRangeUpto
namespace Go.Proofs.Ytonblhannoinfaa
open Go.RowKit Go.Shelf
def keyAt (s : ByteArray) : Nat → ByteArray
  | 0 => s
  | k + 1 => nextS (keyAt s k)
def keysL (s : ByteArray) (n : Nat) : List ByteArray := (List.range n).map fun i => keyAt s (i + 1)
def strs (l : List ByteArray) : List Value := l.map Value.string
theorem keysL_succ (s : ByteArray) (n : Nat) : keysL s (n + 1) = keysL s n ++ [keyAt s (n + 1)] := by simp [keysL, List.range_succ]
theorem keysL_length (s : ByteArray) (n : Nat) : (keysL s n).length = n := by simp [keysL]
theorem keyAt_size (s : ByteArray) (k : Nat) : (keyAt s (k + 1)).size = 40 := nextS_size _
theorem info_str : (Try.prog.info? 9).map (fun i => (i.zero, i.size, i.bytes)) = some (some (.string ⟨#[]⟩), 1, 16) := by kernel_rfl
/-- what the loop knows of the caller's variables when k keys have been taken -/
structure MkC (s : ByteArray) (N D b3 b4 : Nat) (w0 : World) (k : Nat) (W : World) : Prop where
  le : k ≤ N
  n : VarAt W b3 3 (.int .i64 (N : Int))
  l : ∃ v, VarAt W b4 58 v ∧ W.ownsRow (D + 2) 9 1 v k (strs (keysL s k))
  below : Below w0.heap.size w0 W
  size : D + 2 ≤ W.heap.size
theorem VarAt.put {w : World} {g l : Nat} {t : TypeId} {v : Value} (h : VarAt w g t v) (hne : g ≠ l) (o : Obj) : VarAt (w.putObj l o) g t v := (World.putObj_heap_other hne).trans h
theorem own_put {w : World} {base l : Nat} {e : TypeId} {z : Nat} {v : Value} {n : Nat} {xs : List Value} (h : w.ownsRow base e z v n xs) (hl : l < base) (o : Obj) : (w.putObj l o).ownsRow base e z v n xs :=
  h.kept (grownBy_putObj' w l o) (by cases h' : v.ownBlock with
    | none => exact .inl rfl
    | some g =>
      refine .inr fun e => ?_
      have := (h.lt g h').1
      injection e with e
      omega)
theorem below_put {B : Nat} {w W : World} (h : Below B w W) {l : Nat} (hB : B ≤ l) (hl : l < W.heap.size) (o : Obj) : Below B w (W.putObj l o) :=
  h.trans ((Below.refl B W).grown (grownBy_putObj' W l o) (by omega) (fun k e => by cases e; exact hB))
theorem grown_set (W : World) (b : Nat) (v : Value) : W.grownBy (W.setCell ⟨b, 0, none⟩ v) (some b) :=
  have hb := (Below.refl b W).setCell (p := ⟨b, 0, none⟩) (Nat.le_refl _) v
  ⟨hb.os, hb.tape, hb.output, hb.size, fun k _ hk => heap_setCell_other W ⟨b, 0, none⟩ k v (fun e => hk (by rw [e]))⟩
section
variable {s : ByteArray} {N D b3 b4 k : Nat} {w0 W W' : World}
theorem MkC.put (h : MkC s N D b3 b4 w0 k W) (h3 : b3 < D) (h4 : b4 < D) (hD : w0.heap.size ≤ D) {l : Nat} (hl : l = D ∨ l = D + 1) (hlt : l < W.heap.size) (o : Obj) : MkC s N D b3 b4 w0 k (W.putObj l o) := by
  obtain ⟨v, hv, ho⟩ := h.l
  exact ⟨h.le, h.n.put (by omega) o, ⟨v, hv.put (by omega) o, own_put ho (by omega) o⟩, below_put h.below (by omega) hlt o, by simpa using h.size⟩
theorem MkC.ext (h : MkC s N D b3 b4 w0 k W) (hx : Below W.heap.size W W') : MkC s N D b3 b4 w0 k W' := by
  obtain ⟨v, hv, ho⟩ := h.l
  exact ⟨h.le, h.n.ext hx, ⟨v, hv.ext hx, own_keep ho hx⟩, h.below.trans (hx.mono h.below.size), Nat.le_trans h.size hx.size⟩
theorem MkC.set (h : MkC s N D b3 b4 w0 k W) {bt : Nat} (h3 : bt ≠ b3) (h4 : bt ≠ b4) (hD : bt < D) (hw : w0.heap.size ≤ bt) (v : Value) : MkC s N D b3 b4 w0 k (W.setCell ⟨bt, 0, none⟩ v) := by
  obtain ⟨u, hu, ho⟩ := h.l
  refine ⟨h.le, h.n.other (Ne.symm h3) v, ⟨u, hu.other (Ne.symm h4) v, ?_⟩, h.below.setCell hw v, by simpa using h.size⟩
  refine ho.kept (row := some bt) (grown_set W bt v) ?_
  cases h' : u.ownBlock with
  | none => exact .inl rfl
  | some g =>
    refine .inr fun e => ?_
    have := (ho.lt g h').1
    injection e with e
    omega
end
set_option maxHeartbeats 400000 in
theorem behind_any (s : ByteArray) (w : World) : Calls Try.prog 65 #[.string s] w fun e w' => e = .returned (.func (.func 81) #[] #[.pointer (some ⟨w.heap.size, 0, none⟩)]) ∧ w' = w.alloc (.cells #[.string s] 9) := by
  have hmf : ∀ (fn : Fn) (first cap : Array Value) (w : World), (Instr.makeFunc fn first cap).run Try.prog w = .ok (.func fn first cap) w := fun _ _ _ _ => rfl
  go_enter Try.func65, Try.ntmps65
  go_wp2
  go_ret
  exact ⟨rfl, rfl⟩
/-- the length of the slice in a variable -/
def lenAt (b : Nat) (w : World) : Nat := match w.cell? ⟨b, 0, none⟩ with
  | some (.slice _ n _) => n
  | _ => 0
theorem MkC.lenAt {s : ByteArray} {N D b3 b4 k : Nat} {w0 W : World} (h : MkC s N D b3 b4 w0 k W) : lenAt b4 W = k := by
  obtain ⟨v, hv, ho⟩ := h.l
  unfold Go.Proofs.Ytonblhannoinfaa.lenAt
  rw [hv.cell]
  rcases ho.2 with ⟨rfl, rfl⟩ | ⟨g, cap, cur, rfl, _⟩
  · rfl
  · rfl
attribute [local go_sem] Oper.semAt_some
set_option maxHeartbeats 1000000 in
set_option maxRecDepth 10000 in
theorem iter_any (s : ByteArray) (N D b3 b4 bt : Nat) (w0 : World) (hs : s.size ≤ 16384) (hbt : bt < D) (h3 : bt ≠ b3) (h4 : bt ≠ b4) (hwt : w0.heap.size ≤ bt)
    (l : Nat) (R Rx : World → Prop) (W : World) (hR : ∀ W W', R W → Keep2 D W W' → R W') (hRl : ∀ W, R W → D + 1 < W.heap.size)
    (hY : ∀ k W1, R W1 → (MkC s N D b3 b4 w0 k W1 ∧ VarAt W1 bt 9 (.string (keyAt s k))) → YieldAt Fence.wide 7 Try.prog l #[.string (keyAt s (k + 1))] W1 fun e W' =>
      (e = .returned (.bool true) ∧ (MkC s N D b3 b4 w0 (k + 1) W' ∧ VarAt W' bt 9 (.string (keyAt s k))) ∧ R W') ∨ (e = .returned (.bool false) ∧ MkC s N D b3 b4 w0 N W' ∧ Rx W'))
    (h0 : R W) (hJ : MkC s N D b3 b4 w0 0 W ∧ VarAt W bt 9 (.string s)) :
    CallsIn Fence.wide 8 Try.prog 81 #[.func (.yield l) #[] #[], .pointer (some ⟨bt, 0, none⟩)] W fun e W' => (∃ v, e = .returned v) ∧ MkC s N D b3 b4 w0 N W' ∧ Rx W' := by
  have HNX : Hid (∀ (k : Nat) (W : World), Calls Try.prog 43 #[.string (keyAt s k)] W fun e w' => e = .returned (.tuple #[.string (keyAt s (k + 1)), .int .i64 0]) ∧ Below W.heap.size W w') := fun k W => by
    have hz : (keyAt s k).size ≤ 16384 := by
      cases k with
      | zero => exact hs
      | succ k => rw [keyAt_size]; omega
    have h := next_any (keyAt s k) (by unfold maxLen; omega) W
    rw [show nextErr (keyAt s k) = 0 by unfold nextErr; rw [if_neg (by omega)], show nextO (keyAt s k) = keyAt s (k + 1) by unfold nextO; rw [if_neg (by omega)]; rfl] at h
    exact h
  refine callsIn_of_wp Try.func81 rfl trivial ?_ rfl
  simp only [Try.ntmps81, List.size_toArray, List.length_cons, List.length_nil, Nat.reduceAdd, Nat.reduceSub, Array.replicate_succ, Array.replicate_zero, List.push_toArray, List.append_toArray, List.nil_append, List.cons_append]
  gi_wp2
  gi_loopw [3] (fun _ wr => ∃ k : Nat, MkC s N D b3 b4 w0 k wr ∧ VarAt wr bt 9 (.string (keyAt s k)) ∧ R wr) (fun _ wr => N - lenAt b4 wr)
  case atStart => exact ⟨0, hJ.1, hJ.2, h0⟩
  case round =>
    obtain ⟨k, hC, ht, hRk⟩ := hrel
    have hct := ht.cell
    gi_wp2
    refine ⟨trivial, (callsIn_wide.2 (HNX.out k wr)).mono ?_⟩
    rintro e w1 ⟨rfl, hb1⟩
    have hDl := hRl wr hRk
    have hR1 := hR wr w1 hRk ⟨hb1.block D (by omega), hb1.block (D + 1) hDl⟩
    have hC1 := hC.ext hb1
    have ht1 := ht.ext hb1
    obtain ⟨fn, tmps, assign, body, hy, hRd⟩ := hY k w1 hR1 ⟨hC1, ht1⟩
    have HRD := Lib.hid hRd
    have HLEN := Lib.hid hC.lenAt
    clear hRd hct hb1 ht hC hRk hR1 hC1 ht1
    gi_wp2
    refine HRD.out.mono ?_
    rintro e W2 (⟨rfl, ⟨hC2, ht2⟩, hR2⟩ | ⟨rfl, hC2, hX2⟩)
    · have hct := ht2.cell
      have hft := ht2.frozen
      gi_wp2
      have hC3 := hC2.set h3 h4 hbt hwt (.string (keyAt s (k + 1)))
      refine ⟨⟨k + 1, hC3, ht2.set _, hR W2 _ hR2 ⟨heap_setCell_other W2 _ D _ (by show D ≠ bt; omega), heap_setCell_other W2 _ (D + 1) _ (by show D + 1 ≠ bt; omega)⟩⟩, ?_⟩
      have h1 := hC3.lenAt
      have h2 := HLEN.out
      have h5 := hC2.le
      omega
    · gi_wp2
      refine bodyPost_ret (results_none rfl _ _ _) rfl ?_
      exact ⟨⟨_, rfl⟩, hC2, hX2⟩
theorem make_results {w : World} {g : Nat} {v : Value} {e : Int} (tmps : Array Value) (h1 : tmps.getD 4 undef = .pointer (some ⟨g, 0, none⟩)) (h2 : tmps.getD 5 undef = .int .i64 e)
    (h : VarAt w g 58 v) :
    (results Try.f41 tmps).run Try.prog w = .ok (.tuple #[v, .int .i64 e]) w := by
  have c := h.cell
  have h1' : tmps[4]?.getD undef = .pointer (some ⟨g, 0, none⟩) := by simpa using h1
  have h2' : tmps[5]?.getD undef = .int .i64 e := by simpa using h2
  simp [results, Try.results41, h1', h2', asAddr, go_sem, c]
theorem keyAt_eq (s : ByteArray) (k : Nat) : nextS (keyAt s k) = keyAt s (k + 1) := rfl
set_option maxHeartbeats 400000 in
set_option maxRecDepth 10000 in
theorem make_ok (s : ByteArray) (n : Int) (w : World) (hs : s.size ≤ 16384) (hn : 0 ≤ n ∧ n ≤ 256) :
    Calls Try.prog 41 #[.string s, .int .i64 n] w fun e w' => ∃ v, e = .returned (.tuple #[v, .int .i64 0]) ∧ w'.ownsRow w.heap.size 9 1 v n.toNat (strs (keysL s n.toNat)) ∧ Below w.heap.size w w' := by
  obtain ⟨N, rfl⟩ : ∃ N : Nat, n = (N : Int) := ⟨n.toNat, by omega⟩
  rw [Int.toNat_natCast]
  have hnx := next_any s (by unfold maxLen; omega)
  rw [show nextErr s = 0 by unfold nextErr; rw [if_neg (by omega)]] at hnx
  have HNX := Lib.hid hnx
  have b3 : VarAt ((w.alloc (.cells #[.int .i64 (N : Int)] 3)).alloc (.cells #[.slice none 0 0] 58)) w.heap.size 3 (.int .i64 (N : Int)) := heap_alloc2_old w _ _
  have b4 : VarAt ((w.alloc (.cells #[.int .i64 (N : Int)] 3)).alloc (.cells #[.slice none 0 0] 58)) (w.heap.size + 1) 58 (.slice none 0 0) := heap_alloc2_new w _ _
  have hb : Below w.heap.size w ((w.alloc (.cells #[.int .i64 (N : Int)] 3)).alloc (.cells #[.slice none 0 0] 58)) := ((Below.refl _ w).alloc (Nat.le_refl _) _).alloc (by simp) _
  clear hnx
  generalize nextO s = S1 at *
  refine (callsIn_wide (n := 9)).1 ?_
  refine callsIn_of_wp_marks Try.func41 rfl trivial ?_ rfl
  simp only [Try.ntmps41, List.size_toArray, List.length_cons, List.length_nil, Nat.reduceAdd, Nat.reduceSub, Array.replicate_succ, Array.replicate_zero, List.push_toArray, List.append_toArray, List.nil_append, List.cons_append]
  refine wpIn_wide.2 ?_
  go_wp2_with fail
  generalize (w.alloc (.cells #[.int .i64 (N : Int)] 3)).alloc (.cells #[.slice none 0 0] 58) = wa at *
  go_step3
  have c3 := b3.cell
  have c4 := b4.cell
  go_wp2_with fail
  refine (HNX.out wa).mono ?_
  rintro e w1 ⟨rfl, hb1⟩
  have b31 := b3.ext hb1
  have b41 := b4.ext hb1
  have HB1 := Lib.hid (hb.trans (hb1.mono hb.size))
  have hs1 : w.heap.size + 2 ≤ w1.heap.size := by have := RowLt b41; omega
  clear b3 b4 hb c3 c4 hb1
  go_wp2_with fail
  go_step3
  go_wp2_with fail
  refine (behind_any s w1).mono ?_
  rintro e w2 ⟨rfl, rfl⟩
  have b32 : VarAt (w1.alloc (.cells #[.string s] 9)) w.heap.size 3 (.int .i64 (N : Int)) := b31.ext ((Below.refl _ w1).alloc (Nat.le_refl _) _)
  have b42 : VarAt (w1.alloc (.cells #[.string s] 9)) (w.heap.size + 1) 58 (.slice none 0 0) := b41.ext ((Below.refl _ w1).alloc (Nat.le_refl _) _)
  have bt2 : VarAt (w1.alloc (.cells #[.string s] 9)) w1.heap.size 9 (.string s) := heap_alloc_new w1 _
  have HB2 := Lib.hid (HB1.out.alloc HB1.out.size (.cells #[.string s] 9))
  generalize hw2 : w1.alloc (.cells #[.string s] 9) = w2 at *
  obtain ⟨bt, hbt⟩ : ∃ bt, bt = w1.heap.size := ⟨_, rfl⟩
  rw [← hbt] at bt2
  rw [← hbt]
  have hsz2 : w2.heap.size = bt + 1 := by rw [← hw2, hbt]; simp
  have hs1' : w.heap.size + 2 ≤ bt := by omega
  have HBT := Lib.hid hbt
  clear hw2 b31 b41 HB1
  clear hbt hs1
  go_wp2_with fail
  clear HBT
  obtain ⟨i0, hi, hz0, hz1, hz2⟩ := info_parts info_str
  have heg : ∀ (args : Array Value) (w : World), (callFunc 81 args).run Try.prog w = .ok (.enter 81 args) w := enters_of Try.func81 (by kernel_rfl) rfl
  refine (wpIn_wide (n := 9)).1 ?_
  refine range_upto (n := 9) (id := 0) (gf := 81) (lb := #[.pointer (some ⟨bt, 0, none⟩)]) (D := bt + 1) hsz2.symm (by omega) ?hg heg (fun k => .string (keyAt s (k + 1))) ?hps
    (fun k W => MkC s N (bt + 1) w.heap.size (w.heap.size + 1) w k W ∧ VarAt W bt 9 (.string (keyAt s (k - 1))))
    (fun k W => MkC s N (bt + 1) w.heap.size (w.heap.size + 1) w k W ∧ VarAt W bt 9 (.string (keyAt s k)))
    (fun W => MkC s N (bt + 1) w.heap.size (w.heap.size + 1) w N W)
    ?p1 ?p2 ?p3 ?start ?round ?iter ?stop
  case hg => rfl
  case hps => rfl
  case p1 => exact fun k W l o hl hlt h => ⟨h.1.put (by omega) (by omega) (by omega) hl hlt o, h.2.put (by omega) o⟩
  case p2 => exact fun k W l o hl hlt h => ⟨h.1.put (by omega) (by omega) (by omega) hl hlt o, h.2.put (by omega) o⟩
  case p3 => exact fun W l o hl hlt h => h.put (by omega) (by omega) (by omega) hl hlt o
  case iter =>
    intro l R Rx W hR _ hRl _ hY hR0 hJ0
    exact iter_any s N (bt + 1) w.heap.size (w.heap.size + 1) bt w hs (by omega) (by omega) (by omega) (by omega) l R Rx W hR hRl hY hR0 hJ0
  case start =>
    intro r
    have hx : Below w2.heap.size w2 ((w2.alloc (.deferred (some []))).alloc (.loop r)) := ((Below.refl _ w2).alloc (Nat.le_refl _) _).alloc (by simp) _
    exact ⟨⟨Nat.zero_le _, b32.ext hx, ⟨_, b42.ext hx, World.ownsRow_nil _ _ _ _⟩, HB2.out.trans (hx.mono HB2.out.size), by simp; omega⟩, bt2.ext hx⟩
  case round =>
    rintro l k W W' ⟨hC, ht⟩ hlt
    clear b32 b42 bt2 HB2
    obtain ⟨v, hv, ho⟩ := hC.l
    have c3 := hC.n.cell
    have c4 := hv.cell
    have hkN := hC.le
    gi_wp2
    refine ⟨trivial, ?_⟩
    obtain ⟨A, c, rfl⟩ := own_form ho
    by_cases hlt2 : k < N
    · have f4 := hv.frozen
      have hn1 : ¬ (k : Int) = (N : Int) := by omega
      have hn2 : ((k : Int) == (N : Int)) = false := by simpa using hn1
      have HC := Lib.hid hC
      have HV := Lib.hid hv
      have HT := Lib.hid ht
      have hN256 : N ≤ 256 := by omega
      clear hC hv ht
      gi_wp2_with (gi_at_builtin; refine wpListIn_append_own _ rfl _ _ 58 rfl (bt + 1 + 2) 9 i0 (.string ⟨#[]⟩) 1 16 Try.underlying58 hi hz0 hz1 hz2 rfl (by decide) _ _ _ rfl (own_keep ho ((Below.refl _ W').alloc (Nat.le_refl _) (.cells #[.string (keyAt s (k + 1))] 9))) ⟨W'.heap.size, 0, none⟩ 1 1 [.string (keyAt s (k + 1))] rfl rfl (cell_one_new _ _ _) (by simp [Value.oneCell']) (by unfold maxLen; omega) (by omega) (by have := HC.out.size; simp; omega) ?_)
      intro v' w3 hown hg _
      obtain ⟨A', c', rfl⟩ := own_form hown
      have hC := HC.out
      have hsz3 := hC.size
      have hx3 : Below (bt + 1 + 2) W' w3 := ((Below.refl (bt + 1 + 2) W').alloc hsz3 _).grown hg (by simp; omega) (fun q hq => (ho.lt q hq).1)
      have n3 : VarAt w3 w.heap.size 3 (.int .i64 (N : Int)) := (hx3.block w.heap.size (by omega)).trans hC.n
      have l3 : VarAt w3 (w.heap.size + 1) 58 (.slice A k c) := (hx3.block (w.heap.size + 1) (by omega)).trans HV.out
      have t3 : VarAt w3 bt 9 (.string (keyAt s k)) := (hx3.block bt (by omega)).trans HT.out
      have hcl3 := l3.cell
      have hfr3 := l3.frozen
      have HN3 := Lib.hid n3
      have HL3 := Lib.hid l3
      have HT3 := Lib.hid t3
      have HG3 := Lib.hid hx3
      clear n3 l3 t3 hC hg f4 c3 c4
      gi_wp2
      have hown3 : (w3.setCell ⟨w.heap.size + 1, 0, none⟩ (.slice A' (k + 1) c')).ownsRow (bt + 1 + 2) 9 1 (.slice A' (k + 1) c') (k + 1) (strs (keysL s (k + 1))) := by
        rw [show strs (keysL s (k + 1)) = strs (keysL s k) ++ [Value.string (keyAt s (k + 1))] by rw [keysL_succ]; simp [strs]]
        refine hown.kept (grown_set w3 (w.heap.size + 1) _) ?_
        cases h' : (Value.slice A' (k + 1) c').ownBlock with
        | none => exact .inl rfl
        | some g =>
          refine .inr fun e => ?_
          have := (hown.lt g h').1
          injection e with e
          omega
      refine ⟨⟨(heap_setCell_other w3 _ (bt + 1) _ (by show bt + 1 ≠ w.heap.size + 1; omega)).trans (HG3.out.block (bt + 1) (by omega)), (heap_setCell_other w3 _ (bt + 1 + 1) _ (by show bt + 1 + 1 ≠ w.heap.size + 1; omega)).trans (HG3.out.block (bt + 1 + 1) (by omega))⟩, ?_⟩
      refine ⟨⟨by omega, HN3.out.other (by omega) _, ⟨_, HL3.out.set _, hown3⟩, (HC.out.below.trans (HG3.out.mono (by omega))).setCell (by show w.heap.size ≤ w.heap.size + 1; omega) _, ?_⟩, HT3.out.other (by omega) _⟩
      have := HG3.out.size
      simp
      omega
    · obtain rfl : k = N := by omega
      gi_wp2
      exact ⟨rfl, rfl⟩
  case stop =>
    intro W hC hk
    obtain ⟨v, hv, ho⟩ := hC.l
    obtain ⟨A, c, rfl⟩ := own_form ho
    have c4 := hv.cell
    have f4 := hv.frozen
    rw [Exit.inBlock, if_pos rfl, Exit.then]
    have HC := Lib.hid hC
    have HV := Lib.hid hv
    have HO := Lib.hid ho
    clear hC hv ho
    go_wp2
    rw [Exit.noGoto_ret]
    have hv2 := HV.out.set (.slice A N c)
    have hk2 : (W.setCell ⟨w.heap.size + 1, 0, none⟩ (.slice A N c)).heap[bt + 1]? = some (.deferred (some [])) := (heap_setCell_other W _ (bt + 1) _ (by show bt + 1 ≠ w.heap.size + 1; omega)).trans hk
    have hlt := (Array.getElem?_eq_some_iff.1 hk2).1
    have hown : ((W.setCell ⟨w.heap.size + 1, 0, none⟩ (.slice A N c)).putObj (bt + 1) (.deferred none)).ownsRow w.heap.size 9 1 (.slice A N c) N (strs (keysL s N)) := by
      refine own_le (base := bt + 1 + 2) (own_put (HO.out.kept (grown_set W (w.heap.size + 1) _) ?_) (by omega) _) (by omega)
      cases h' : (Value.slice A N c).ownBlock with
      | none => exact .inl rfl
      | some g =>
        refine .inr fun e => ?_
        have := (HO.out.lt g h').1
        injection e with e
        omega
    refine ⟨by simp, .inl ⟨_, _, rfl, run_takeDeferred hk2, ?_⟩⟩
    exact ⟨_, make_results _ rfl rfl (hv2.put (by omega) _), _, rfl, hown, below_put (HC.out.below.setCell (by show w.heap.size ≤ w.heap.size + 1; omega) _) (by omega) hlt _⟩
end Go.Proofs.Ytonblhannoinfaa
