/- Layer 4 (chain): what is stored then. -/
import Derived.Test.YtonblhannoinfaaChainB
import Derived.Defers
import Derived.Recover
namespace Go.Proofs.Ytonblhannoinfaa
open Go.RowKit
set_option maxHeartbeats 400000 in
theorem strike_ok (pe pn : Addr) (u : FrameMode) (w : World) (he : w.cell? pe = some (.int .i64 0)) :
    CallsD Try.prog 66 #[.pointer (some pe), .pointer (some pn)] u w fun e u' w' => u' = u ∧ (e = .returned (.tuple #[]) ∧ w' = w) := by
  go_enter_d Try.func66, Try.ntmps66
  go_wp2
  go_end0
  exact ⟨rfl, rfl⟩
set_option maxHeartbeats 400000 in
theorem strike_no (pe pn : Addr) (u : FrameMode) (w : World) (he : w.cell? pe = some (.int .i64 40)) (s : ByteArray) (hn : w.cell? pn = some (.string s)) (hf : w.frozen? pn = false) :
    CallsD Try.prog 66 #[.pointer (some pe), .pointer (some pn)] u w fun e u' w' => u' = u ∧ (e = .returned (.tuple #[]) ∧ w' = w.setCell pn (.string ⟨#[]⟩)) := by
  go_enter_d Try.func66, Try.ntmps66
  go_wp2
  go_end0
  exact ⟨rfl, rfl⟩
/-- a variable of one cell -/
def VarAt (w : World) (g : Nat) (t : TypeId) (v : Value) : Prop := w.heap[g]? = some (.cells #[v] t (0, 0))
theorem VarAt.cell {w : World} {g : Nat} {t : TypeId} {v : Value} (h : VarAt w g t v) : w.cell? ⟨g, 0, none⟩ = some v := by
  rw [cell_of_row w g 0 _ _ _ h]; rfl
theorem VarAt.frozen {w : World} {g : Nat} {t : TypeId} {v : Value} (h : VarAt w g t v) : w.frozen? ⟨g, 0, none⟩ = false := frozen_of_row w g 0 _ _ h
theorem VarAt.ext {w w' : World} {g : Nat} {t : TypeId} {v : Value} (h : VarAt w g t v) (hx : Below w.heap.size w w') : VarAt w' g t v := (hx.block g (RowLt h)).trans h
theorem VarAt.set {w : World} {g : Nat} {t : TypeId} {v : Value} (h : VarAt w g t v) (u : Value) : VarAt (w.setCell ⟨g, 0, none⟩ u) g t u := by
  unfold VarAt at h ⊢
  rw [heap_setCell_same w g 0 _ t _ h]
  rfl
theorem VarAt.other {w : World} {g g' : Nat} {t : TypeId} {v : Value} (h : VarAt w g t v) (hne : g ≠ g') (u : Value) : VarAt (w.setCell ⟨g', 0, none⟩ u) g t v := (heap_setCell_other w _ g _ hne).trans h
theorem VarAt.drew {w : World} {g : Nat} {t : TypeId} {v : Value} (h : VarAt w g t v) : VarAt w.drew g t v := h
theorem take_results {w : World} {g8 g9 : Nat} {s : ByteArray} {e : Int} (tmps : Array Value) (h1 : tmps.getD 8 undef = .pointer (some ⟨g8, 0, none⟩)) (h2 : tmps.getD 9 undef = .pointer (some ⟨g9, 0, none⟩))
    (h8 : VarAt w g8 9 (.string s)) (h9 : VarAt w g9 29 (.int .i64 e)) :
    (results Try.f42 tmps).run Try.prog w = .ok (.tuple #[.string s, .int .i64 e]) w := by
  have c8 := h8.cell
  have c9 := h9.cell
  have h1' : tmps[8]?.getD undef = .pointer (some ⟨g8, 0, none⟩) := by simpa using h1
  have h2' : tmps[9]?.getD undef = .pointer (some ⟨g9, 0, none⟩) := by simpa using h2
  simp [results, Try.results42, h1', h2', asAddr, go_sem, c8, c9]
def nowI (key fresh : ByteArray) (has : Bool) : ByteArray := if has then fresh else key
def takeI (st key fresh : ByteArray) (has : Bool) : Bool := fitsI st key && isI (nowI key fresh has) 40
set_option maxHeartbeats 1000000 in
set_option maxRecDepth 10000 in
theorem take_ok (st key fresh : ByteArray) (has : Bool) (w : World) (h1 : fitsI st key = true) (h2 : isI (nowI key fresh has) 40 = true) :
    Calls Try.prog 42 #[.string st, .string key, .string fresh, .bool has] w fun e w' => e = .returned (.tuple #[.string (nowI key fresh has), .int .i64 0]) ∧ Below w.heap.size w w' := by
  have hmf : ∀ (fn : Fn) (first cap : Array Value) (w : World), (Instr.makeFunc fn first cap).run Try.prog w = .ok (.func fn first cap) w := fun _ _ _ _ => rfl
  have H1 := Lib.hid (fits_any st key)
  have H2 := Lib.hid (is_lit (nowI key fresh has) 40 true h2)
  rw [h1] at H1
  clear h1 h2
  cases has with
  | false =>
    change Hid (∀ W, Calls _ _ #[.string key, _] _ _) at H2
    simp only [nowI, Bool.false_eq_true, if_false]
    go_enter_defers Try.func42, Try.ntmps42
    go_wp2_with fail
    have h8 : VarAt ((w.alloc (.cells #[.string key] 9)).alloc (.cells #[.int .i64 0] 29)) w.heap.size 9 (.string key) := heap_alloc2_old w _ _
    have h9 : VarAt ((w.alloc (.cells #[.string key] 9)).alloc (.cells #[.int .i64 0] 29)) (w.heap.size + 1) 29 (.int .i64 0) := heap_alloc2_new w _ _
    have hb0 : Below w.heap.size w ((w.alloc (.cells #[.string key] 9)).alloc (.cells #[.int .i64 0] 29)) := ((Below.refl _ w).alloc (Nat.le_refl _) _).alloc (by simp) _
    generalize (w.alloc (.cells #[.string key] 9)).alloc (.cells #[.int .i64 0] 29) = wa at *
    refine (H1.out wa).mono ?_
    rintro e w1 ⟨rfl, hb1⟩
    have k8 := (h8.ext hb1).cell
    have H81 := Lib.hid (h8.ext hb1)
    have H91 := Lib.hid (h9.ext hb1)
    have HB1 := Lib.hid (hb0.trans (hb1.mono hb0.size))
    clear h8 h9 hb0 hb1
    go_wp2_with fail
    refine (H2.out w1).mono ?_
    rintro e w2 ⟨rfl, hb2⟩
    clear k8
    have h8 := H81.out.ext hb2
    have h9 := H91.out.ext hb2
    have HB2 := Lib.hid (HB1.out.trans (hb2.mono HB1.out.size))
    have c8 := h8.cell
    have c9 := h9.cell
    have f8 := h8.frozen
    have f9 := h9.frozen
    clear hb2
    go_wp2_with fail
    go_region
    all_goals go_wp2
    have k8 := ((h8.set (.string key)).other (g' := w.heap.size + 1) (by omega) (.int .i64 0)).drew
    have k9 := ((h9.other (g' := w.heap.size) (by omega) (.string key)).set (.int .i64 0)).drew
    refine leaves_cons (f := 66) (args := #[.pointer (some ⟨w.heap.size + 1, 0, none⟩), .pointer (some ⟨w.heap.size, 0, none⟩)]) (by simp) (by simp [go_sem]) ?_
    refine (strike_ok _ _ .returning _ k9.cell).mono ?_
    rintro e u' w'' ⟨rfl, rfl, rfl⟩
    exact ⟨_, take_results _ rfl rfl k8 k9, rfl, ((HB2.out.setCell (p := ⟨w.heap.size, 0, none⟩) (Nat.le_refl _) _).setCell (p := ⟨w.heap.size + 1, 0, none⟩) (by simp) _).drew⟩
  | true =>
    change Hid (∀ W, Calls _ _ #[.string fresh, _] _ _) at H2
    simp only [nowI, if_true]
    go_enter_defers Try.func42, Try.ntmps42
    go_wp2_with fail
    have h8 : VarAt ((w.alloc (.cells #[.string fresh] 9)).alloc (.cells #[.int .i64 0] 29)) w.heap.size 9 (.string fresh) := heap_alloc2_old w _ _
    have h9 : VarAt ((w.alloc (.cells #[.string fresh] 9)).alloc (.cells #[.int .i64 0] 29)) (w.heap.size + 1) 29 (.int .i64 0) := heap_alloc2_new w _ _
    have hb0 : Below w.heap.size w ((w.alloc (.cells #[.string fresh] 9)).alloc (.cells #[.int .i64 0] 29)) := ((Below.refl _ w).alloc (Nat.le_refl _) _).alloc (by simp) _
    generalize (w.alloc (.cells #[.string fresh] 9)).alloc (.cells #[.int .i64 0] 29) = wa at *
    refine (H1.out wa).mono ?_
    rintro e w1 ⟨rfl, hb1⟩
    have k8 := (h8.ext hb1).cell
    have H81 := Lib.hid (h8.ext hb1)
    have H91 := Lib.hid (h9.ext hb1)
    have HB1 := Lib.hid (hb0.trans (hb1.mono hb0.size))
    clear h8 h9 hb0 hb1
    go_wp2_with fail
    refine (H2.out w1).mono ?_
    rintro e w2 ⟨rfl, hb2⟩
    clear k8
    have h8 := H81.out.ext hb2
    have h9 := H91.out.ext hb2
    have HB2 := Lib.hid (HB1.out.trans (hb2.mono HB1.out.size))
    have c8 := h8.cell
    have c9 := h9.cell
    have f8 := h8.frozen
    have f9 := h9.frozen
    clear hb2
    go_wp2_with fail
    go_region
    all_goals go_wp2
    have k8 := ((h8.set (.string fresh)).other (g' := w.heap.size + 1) (by omega) (.int .i64 0)).drew
    have k9 := ((h9.other (g' := w.heap.size) (by omega) (.string fresh)).set (.int .i64 0)).drew
    refine leaves_cons (f := 66) (args := #[.pointer (some ⟨w.heap.size + 1, 0, none⟩), .pointer (some ⟨w.heap.size, 0, none⟩)]) (by simp) (by simp [go_sem]) ?_
    refine (strike_ok _ _ .returning _ k9.cell).mono ?_
    rintro e u' w'' ⟨rfl, rfl, rfl⟩
    exact ⟨_, take_results _ rfl rfl k8 k9, rfl, ((HB2.out.setCell (p := ⟨w.heap.size, 0, none⟩) (Nat.le_refl _) _).setCell (p := ⟨w.heap.size + 1, 0, none⟩) (by simp) _).drew⟩
set_option maxHeartbeats 1000000 in
set_option maxRecDepth 10000 in
theorem take_no1 (st key fresh : ByteArray) (has : Bool) (w : World) (h1 : fitsI st key = false) :
    Calls Try.prog 42 #[.string st, .string key, .string fresh, .bool has] w fun e w' => e = .returned (.tuple #[.string ⟨#[]⟩, .int .i64 40]) ∧ Below w.heap.size w w' := by
  have hmf : ∀ (fn : Fn) (first cap : Array Value) (w : World), (Instr.makeFunc fn first cap).run Try.prog w = .ok (.func fn first cap) w := fun _ _ _ _ => rfl
  have H1 := Lib.hid (fits_any st key)
  rw [h1] at H1
  clear h1
  cases has with
  | false =>
    go_enter_defers Try.func42, Try.ntmps42
    go_wp2_with fail
    have h8 : VarAt ((w.alloc (.cells #[.string key] 9)).alloc (.cells #[.int .i64 0] 29)) w.heap.size 9 (.string key) := heap_alloc2_old w _ _
    have h9 : VarAt ((w.alloc (.cells #[.string key] 9)).alloc (.cells #[.int .i64 0] 29)) (w.heap.size + 1) 29 (.int .i64 0) := heap_alloc2_new w _ _
    have hb0 : Below w.heap.size w ((w.alloc (.cells #[.string key] 9)).alloc (.cells #[.int .i64 0] 29)) := ((Below.refl _ w).alloc (Nat.le_refl _) _).alloc (by simp) _
    generalize (w.alloc (.cells #[.string key] 9)).alloc (.cells #[.int .i64 0] 29) = wa at *
    refine (H1.out wa).mono ?_
    rintro e w1 ⟨rfl, hb1⟩
    replace h8 := h8.ext hb1
    replace h9 := h9.ext hb1
    have HB1 := Lib.hid (hb0.trans (hb1.mono hb0.size))
    clear hb0 hb1
    have c8 := h8.cell
    have c9 := h9.cell
    have f8 := h8.frozen
    have f9 := h9.frozen
    have h8' := h8.other (g' := w.heap.size + 1) (by omega) (.int .i64 40)
    have h9' := h9.set (.int .i64 40)
    have d8 := h8'.cell
    have d9 := h9'.cell
    have e8 := h8'.frozen
    have e9 := h9'.frozen
    go_wp2_with fail
    go_region
    all_goals go_wp2
    have k8 := ((h8'.set (.string key)).other (g' := w.heap.size + 1) (by omega) (.int .i64 40)).drew
    have k9 := ((h9'.other (g' := w.heap.size) (by omega) (.string key)).set (.int .i64 40)).drew
    refine leaves_cons (f := 66) (args := #[.pointer (some ⟨w.heap.size + 1, 0, none⟩), .pointer (some ⟨w.heap.size, 0, none⟩)]) (by simp) (by simp [go_sem]) ?_
    refine (strike_no _ _ .returning _ k9.cell _ k8.cell k8.frozen).mono ?_
    rintro e u' w'' ⟨rfl, rfl, rfl⟩
    exact ⟨_, take_results _ rfl rfl (k8.set _) (k9.other (by omega) _), rfl, (((HB1.out.setCell (p := ⟨w.heap.size + 1, 0, none⟩) (by simp) _).setCell (p := ⟨w.heap.size, 0, none⟩) (Nat.le_refl _) _).setCell (p := ⟨w.heap.size + 1, 0, none⟩) (by simp) _).drew.setCell (p := ⟨w.heap.size, 0, none⟩) (Nat.le_refl _) _⟩
  | true =>
    go_enter_defers Try.func42, Try.ntmps42
    go_wp2_with fail
    have h8 : VarAt ((w.alloc (.cells #[.string fresh] 9)).alloc (.cells #[.int .i64 0] 29)) w.heap.size 9 (.string fresh) := heap_alloc2_old w _ _
    have h9 : VarAt ((w.alloc (.cells #[.string fresh] 9)).alloc (.cells #[.int .i64 0] 29)) (w.heap.size + 1) 29 (.int .i64 0) := heap_alloc2_new w _ _
    have hb0 : Below w.heap.size w ((w.alloc (.cells #[.string fresh] 9)).alloc (.cells #[.int .i64 0] 29)) := ((Below.refl _ w).alloc (Nat.le_refl _) _).alloc (by simp) _
    generalize (w.alloc (.cells #[.string fresh] 9)).alloc (.cells #[.int .i64 0] 29) = wa at *
    refine (H1.out wa).mono ?_
    rintro e w1 ⟨rfl, hb1⟩
    replace h8 := h8.ext hb1
    replace h9 := h9.ext hb1
    have HB1 := Lib.hid (hb0.trans (hb1.mono hb0.size))
    clear hb0 hb1
    have c8 := h8.cell
    have c9 := h9.cell
    have f8 := h8.frozen
    have f9 := h9.frozen
    have h8' := h8.other (g' := w.heap.size + 1) (by omega) (.int .i64 40)
    have h9' := h9.set (.int .i64 40)
    have d8 := h8'.cell
    have d9 := h9'.cell
    have e8 := h8'.frozen
    have e9 := h9'.frozen
    go_wp2_with fail
    go_region
    all_goals go_wp2
    have k8 := ((h8'.set (.string fresh)).other (g' := w.heap.size + 1) (by omega) (.int .i64 40)).drew
    have k9 := ((h9'.other (g' := w.heap.size) (by omega) (.string fresh)).set (.int .i64 40)).drew
    refine leaves_cons (f := 66) (args := #[.pointer (some ⟨w.heap.size + 1, 0, none⟩), .pointer (some ⟨w.heap.size, 0, none⟩)]) (by simp) (by simp [go_sem]) ?_
    refine (strike_no _ _ .returning _ k9.cell _ k8.cell k8.frozen).mono ?_
    rintro e u' w'' ⟨rfl, rfl, rfl⟩
    exact ⟨_, take_results _ rfl rfl (k8.set _) (k9.other (by omega) _), rfl, (((HB1.out.setCell (p := ⟨w.heap.size + 1, 0, none⟩) (by simp) _).setCell (p := ⟨w.heap.size, 0, none⟩) (Nat.le_refl _) _).setCell (p := ⟨w.heap.size + 1, 0, none⟩) (by simp) _).drew.setCell (p := ⟨w.heap.size, 0, none⟩) (Nat.le_refl _) _⟩
set_option maxHeartbeats 1000000 in
set_option maxRecDepth 10000 in
theorem take_no2 (st key fresh : ByteArray) (has : Bool) (w : World) (h1 : fitsI st key = true) (h2 : isI (nowI key fresh has) 40 = false) :
    Calls Try.prog 42 #[.string st, .string key, .string fresh, .bool has] w fun e w' => e = .returned (.tuple #[.string ⟨#[]⟩, .int .i64 40]) ∧ Below w.heap.size w w' := by
  have hmf : ∀ (fn : Fn) (first cap : Array Value) (w : World), (Instr.makeFunc fn first cap).run Try.prog w = .ok (.func fn first cap) w := fun _ _ _ _ => rfl
  have H1 := Lib.hid (fits_any st key)
  have H2 := Lib.hid (is_lit (nowI key fresh has) 40 false h2)
  rw [h1] at H1
  clear h1 h2
  cases has with
  | false =>
    change Hid (∀ W, Calls _ _ #[.string key, _] _ _) at H2
    go_enter_defers Try.func42, Try.ntmps42
    go_wp2_with fail
    have h8 : VarAt ((w.alloc (.cells #[.string key] 9)).alloc (.cells #[.int .i64 0] 29)) w.heap.size 9 (.string key) := heap_alloc2_old w _ _
    have h9 : VarAt ((w.alloc (.cells #[.string key] 9)).alloc (.cells #[.int .i64 0] 29)) (w.heap.size + 1) 29 (.int .i64 0) := heap_alloc2_new w _ _
    have hb0 : Below w.heap.size w ((w.alloc (.cells #[.string key] 9)).alloc (.cells #[.int .i64 0] 29)) := ((Below.refl _ w).alloc (Nat.le_refl _) _).alloc (by simp) _
    generalize (w.alloc (.cells #[.string key] 9)).alloc (.cells #[.int .i64 0] 29) = wa at *
    refine (H1.out wa).mono ?_
    rintro e w1 ⟨rfl, hb1⟩
    have k8 := (h8.ext hb1).cell
    have H81 := Lib.hid (h8.ext hb1)
    have H91 := Lib.hid (h9.ext hb1)
    have HB1 := Lib.hid (hb0.trans (hb1.mono hb0.size))
    clear h8 h9 hb0 hb1
    go_wp2_with fail
    refine (H2.out w1).mono ?_
    rintro e w2 ⟨rfl, hb2⟩
    clear k8
    have h8 := H81.out.ext hb2
    have h9 := H91.out.ext hb2
    have HB2 := Lib.hid (HB1.out.trans (hb2.mono HB1.out.size))
    clear hb2
    have c8 := h8.cell
    have c9 := h9.cell
    have f8 := h8.frozen
    have f9 := h9.frozen
    have h8' := h8.other (g' := w.heap.size + 1) (by omega) (.int .i64 40)
    have h9' := h9.set (.int .i64 40)
    have d8 := h8'.cell
    have d9 := h9'.cell
    have e8 := h8'.frozen
    have e9 := h9'.frozen
    go_wp2_with fail
    go_region
    all_goals go_wp2
    have k8 := ((h8'.set (.string key)).other (g' := w.heap.size + 1) (by omega) (.int .i64 40)).drew
    have k9 := ((h9'.other (g' := w.heap.size) (by omega) (.string key)).set (.int .i64 40)).drew
    refine leaves_cons (f := 66) (args := #[.pointer (some ⟨w.heap.size + 1, 0, none⟩), .pointer (some ⟨w.heap.size, 0, none⟩)]) (by simp) (by simp [go_sem]) ?_
    refine (strike_no _ _ .returning _ k9.cell _ k8.cell k8.frozen).mono ?_
    rintro e u' w'' ⟨rfl, rfl, rfl⟩
    exact ⟨_, take_results _ rfl rfl (k8.set _) (k9.other (by omega) _), rfl, (((HB2.out.setCell (p := ⟨w.heap.size + 1, 0, none⟩) (by simp) _).setCell (p := ⟨w.heap.size, 0, none⟩) (Nat.le_refl _) _).setCell (p := ⟨w.heap.size + 1, 0, none⟩) (by simp) _).drew.setCell (p := ⟨w.heap.size, 0, none⟩) (Nat.le_refl _) _⟩
  | true =>
    change Hid (∀ W, Calls _ _ #[.string fresh, _] _ _) at H2
    go_enter_defers Try.func42, Try.ntmps42
    go_wp2_with fail
    have h8 : VarAt ((w.alloc (.cells #[.string fresh] 9)).alloc (.cells #[.int .i64 0] 29)) w.heap.size 9 (.string fresh) := heap_alloc2_old w _ _
    have h9 : VarAt ((w.alloc (.cells #[.string fresh] 9)).alloc (.cells #[.int .i64 0] 29)) (w.heap.size + 1) 29 (.int .i64 0) := heap_alloc2_new w _ _
    have hb0 : Below w.heap.size w ((w.alloc (.cells #[.string fresh] 9)).alloc (.cells #[.int .i64 0] 29)) := ((Below.refl _ w).alloc (Nat.le_refl _) _).alloc (by simp) _
    generalize (w.alloc (.cells #[.string fresh] 9)).alloc (.cells #[.int .i64 0] 29) = wa at *
    refine (H1.out wa).mono ?_
    rintro e w1 ⟨rfl, hb1⟩
    have k8 := (h8.ext hb1).cell
    have H81 := Lib.hid (h8.ext hb1)
    have H91 := Lib.hid (h9.ext hb1)
    have HB1 := Lib.hid (hb0.trans (hb1.mono hb0.size))
    clear h8 h9 hb0 hb1
    go_wp2_with fail
    refine (H2.out w1).mono ?_
    rintro e w2 ⟨rfl, hb2⟩
    clear k8
    have h8 := H81.out.ext hb2
    have h9 := H91.out.ext hb2
    have HB2 := Lib.hid (HB1.out.trans (hb2.mono HB1.out.size))
    clear hb2
    have c8 := h8.cell
    have c9 := h9.cell
    have f8 := h8.frozen
    have f9 := h9.frozen
    have h8' := h8.other (g' := w.heap.size + 1) (by omega) (.int .i64 40)
    have h9' := h9.set (.int .i64 40)
    have d8 := h8'.cell
    have d9 := h9'.cell
    have e8 := h8'.frozen
    have e9 := h9'.frozen
    go_wp2_with fail
    go_region
    all_goals go_wp2
    have k8 := ((h8'.set (.string fresh)).other (g' := w.heap.size + 1) (by omega) (.int .i64 40)).drew
    have k9 := ((h9'.other (g' := w.heap.size) (by omega) (.string fresh)).set (.int .i64 40)).drew
    refine leaves_cons (f := 66) (args := #[.pointer (some ⟨w.heap.size + 1, 0, none⟩), .pointer (some ⟨w.heap.size, 0, none⟩)]) (by simp) (by simp [go_sem]) ?_
    refine (strike_no _ _ .returning _ k9.cell _ k8.cell k8.frozen).mono ?_
    rintro e u' w'' ⟨rfl, rfl, rfl⟩
    exact ⟨_, take_results _ rfl rfl (k8.set _) (k9.other (by omega) _), rfl, (((HB2.out.setCell (p := ⟨w.heap.size + 1, 0, none⟩) (by simp) _).setCell (p := ⟨w.heap.size, 0, none⟩) (Nat.le_refl _) _).setCell (p := ⟨w.heap.size + 1, 0, none⟩) (by simp) _).drew.setCell (p := ⟨w.heap.size, 0, none⟩) (Nat.le_refl _) _⟩
def takeO (st key fresh : ByteArray) (has : Bool) : ByteArray := if takeI st key fresh has then nowI key fresh has else ⟨#[]⟩
def takeErr (st key fresh : ByteArray) (has : Bool) : Int := if takeI st key fresh has then 0 else 40
theorem take_any (st key fresh : ByteArray) (has : Bool) (w : World) :
    Calls Try.prog 42 #[.string st, .string key, .string fresh, .bool has] w fun e w' => e = .returned (.tuple #[.string (takeO st key fresh has), .int .i64 (takeErr st key fresh has)]) ∧ Below w.heap.size w w' := by
  unfold takeO takeErr takeI
  cases h1 : fitsI st key with
  | false => exact take_no1 st key fresh has w h1
  | true =>
    cases h2 : isI (nowI key fresh has) 40 with
    | false => exact take_no2 st key fresh has w h1 h2
    | true => exact take_ok st key fresh has w h1 h2
end Go.Proofs.Ytonblhannoinfaa
