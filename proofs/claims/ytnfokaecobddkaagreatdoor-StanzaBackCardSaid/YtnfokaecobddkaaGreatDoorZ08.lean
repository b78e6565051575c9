/- Part 8 of a proof laid in parts, one behind the other; no condition of its own. -/
import Derived.Test.YtnfokaecobddkaaGreatDoorZ07
import Derived.Laws.EntriesVeiled
import Derived.MapKept
import Derived.Carry
import Derived.Test.YtnfokaecobddkaaGreatDoorZ04
import Derived.Test.YtnfokaecobddkaaGreatDoorZ06
import Derived.Test.YtnfokaecobddkaaGreatDoorZ05
set_option linter.all false
section
namespace Go.Proofs.YtnfokaecobddkaaGreatDoor
open Go.RowKit
set_option maxRecDepth 10000
set_option linter.unusedSimpArgs false
set_option linter.unusedVariables false
theorem check_u8 (em : Bool) (n : Nat) (a : Int) (w : World) : (Instr.checkKey em (n + 1) 5 (.int .u8 a)).run Tryz.prog w = .ok () w := by
  simp [Instr.checkKey, run_underlying Tryz.underlying5]
theorem put_u8 (w : World) (b : Nat) (es : Array MapEntry) (clock : Nat) (a : Int) (v : Value) (hb : w.heap[b]? = some (.map es clock)) (hf : Instr.findNow (.int .u8) (.int .u8 a) es.toList 0 = some none) :
    (Instr.mapUpdate 76 (.map (some b)) (.int .u8 a) v).run Tryz.prog w = .ok () { w with heap := w.heap.setIfInBounds b (.map (es.push { key := .int .u8 a, val := v, born := clock }) (clock + 1)) } := by
  have hc := check_u8 false 9999 a w
  simp only [Nat.reduceAdd] at hc
  simp [Instr.mapUpdate, run_underlying Tryz.underlying76, run_underlying Tryz.underlying5, MapKept.run_getObj_map hb, hc, Instr.findKey, hf, MapKept.run_setObj_map _ hb]
theorem get_u8 (w : World) (b : Nat) (es : Array MapEntry) (clock : Nat) (a : Int) (o : Option (Nat × Value)) (hb : w.heap[b]? = some (.map es clock)) (hf : Instr.findNow (.int .u8) (.int .u8 a) es.toList 0 = some o) :
    (Instr.lookup 76 (.map (some b)) (.int .u8 a) false).run Tryz.prog w = .ok (match o with | some x => x.2 | none => .slice none 0 0) w := by
  have hc := fun em => check_u8 em 9999 a w
  simp only [Nat.reduceAdd] at hc
  cases o with
  | none => simp [Instr.lookup, run_underlying Tryz.underlying76, run_underlying Tryz.underlying5, MapKept.run_getObj_map hb, hc, Instr.findKey, hf, Tryz.zeroValue44]
  | some x => simp [Instr.lookup, run_underlying Tryz.underlying76, run_underlying Tryz.underlying5, MapKept.run_getObj_map hb, hc, Instr.findKey, hf]
theorem same_u8 (a b : Int) : Instr.sameNow (.int .u8) (.int .u8 a) (.int .u8 b) = some (a == b) := by simp [Instr.sameNow]
theorem find_3 (a : Int) (v1 v2 v3 : Value) : Instr.findNow (.int .u8) (.int .u8 a) [⟨.int .u8 1, v1, 0⟩, ⟨.int .u8 2, v2, 1⟩, ⟨.int .u8 3, v3, 2⟩] 0 = some (if a = 1 then some (0, v1) else if a = 2 then some (1, v2) else if a = 3 then some (2, v3) else none) := by
  unfold Instr.findNow
  simp only [same_u8]
  by_cases h1 : a = 1
  · subst h1; rfl
  · rw [if_neg h1, show (a == 1) = false by simpa using h1]
    simp only []
    unfold Instr.findNow
    simp only [same_u8]
    by_cases h2 : a = 2
    · subst h2; rfl
    · rw [if_neg h2, show (a == 2) = false by simpa using h2]
      simp only []
      unfold Instr.findNow
      simp only [same_u8]
      by_cases h3 : a = 3
      · subst h3; rfl
      · rw [if_neg h3, show (a == 3) = false by simpa using h3]
        rfl
def MapT (u : Value) (W : World) : Prop := ∃ b A1 A2 A3 ck, u = .map (some b) ∧ W.heap[b]? = some (.map #[⟨.int .u8 1, .slice A1 6 6, 0⟩, ⟨.int .u8 2, .slice A2 8 8, 1⟩, ⟨.int .u8 3, .slice A3 4 4, 2⟩] ck) ∧ RdS W A1 msgTypes ∧ RdS W A2 preTypes ∧ RdS W A3 iqTypes
theorem MapT.ext {u : Value} {W W' : World} (h : MapT u W) (hb : Below W.heap.size W W') : MapT u W' := by
  obtain ⟨b, A1, A2, A3, ck, h1, h2, h3, h4, h5⟩ := h
  exact ⟨b, A1, A2, A3, ck, h1, (hb.block b (Array.getElem?_eq_some_iff.1 h2).1).trans h2, h3.ext hb, h4.ext hb, h5.ext hb⟩
theorem MapT.get {u : Value} {W : World} (h : MapT u W) (k : Int) : ∃ b A c, u = .map (some b) ∧ (Instr.lookup 76 (.map (some b)) (.int .u8 k) false).run Tryz.prog W = .ok (.slice A (typesOf k).length c) W ∧ RdS W A (typesOf k) := by
  obtain ⟨b, A1, A2, A3, ck, h1, h2, h3, h4, h5⟩ := h
  have hg := fun o => get_u8 W b _ ck k o h2
  have hf := find_3 k (.slice A1 6 6) (.slice A2 8 8) (.slice A3 4 4)
  by_cases k1 : k = 1
  · subst k1
    exact ⟨b, A1, 6, h1, hg _ hf, h3⟩
  · by_cases k2 : k = 2
    · subst k2
      exact ⟨b, A2, 8, h1, hg _ hf, h4⟩
    · by_cases k3 : k = 3
      · subst k3
        exact ⟨b, A3, 4, h1, hg _ hf, h5⟩
      · have e : typesOf k = [] := by unfold typesOf; rw [if_neg k1, if_neg k2, if_neg k3]
        rw [if_neg k1, if_neg k2, if_neg k3] at hf
        have hl := hg _ hf
        refine ⟨b, none, 0, h1, ?_, fun h0 => ?_⟩
        · rw [e]; exact hl
        · rw [e] at h0; cases h0
theorem set_keep {W : World} {b k : Nat} {o : Obj} (h : k ≠ b) : ({ W with heap := W.heap.setIfInBounds b o } : World).heap[k]? = W.heap[k]? := by
  show (W.heap.setIfInBounds b o)[k]? = _
  rw [Array.getElem?_setIfInBounds_ne (by omega)]
theorem set_at' {W : World} {b : Nat} {o : Obj} (h : b < W.heap.size) : ({ W with heap := W.heap.setIfInBounds b o } : World).heap[b]? = some o := by
  show (W.heap.setIfInBounds b o)[b]? = _
  rw [Array.getElem?_setIfInBounds_self_of_lt h]
theorem below_set {B b : Nat} {w W : World} {o : Obj} (h : Below B w W) (hb : B ≤ b) : Below B w { W with heap := W.heap.setIfInBounds b o } :=
  h.trans ⟨rfl, rfl, rfl, by simp, fun k hk => set_keep (by omega)⟩
def RowS (W : World) (g : Nat) (l : List ByteArray) : Prop := ∃ t, W.heap[g]? = some (.cells (l.map Value.string).toArray t (0, 0))
theorem RowS.rds {W : World} {g : Nat} {l : List ByteArray} (h : RowS W g l) : RdS W (some ⟨g, 0, none⟩) l := fun _ => by
  obtain ⟨t, h⟩ := h
  exact ⟨g, 0, rfl, (Array.getElem?_eq_some_iff.1 h).1, fun i s hi => by simp [World.cell?, h, hi]⟩
theorem RowS.set {W : World} {g b : Nat} {l : List ByteArray} {o : Obj} (h : RowS W g l) (hne : g ≠ b) : RowS { W with heap := W.heap.setIfInBounds b o } g l := by
  obtain ⟨t, h⟩ := h
  exact ⟨t, (set_keep hne).trans h⟩
theorem RowS.alloc {W : World} {g : Nat} {l : List ByteArray} (h : RowS W g l) (o : Obj) : RowS (W.alloc o) g l := by
  obtain ⟨t, h⟩ := h
  exact ⟨t, heap_ext h ((Below.refl _ _).alloc (Nat.le_refl _) _)⟩
theorem RowS.new (W : World) (g : Nat) (t : TypeId) (l : List ByteArray) (hg : g = W.heap.size) : RowS (W.alloc (.cells (l.map Value.string).toArray t)) g l := by
  subst hg
  exact ⟨t, heap_alloc_new W _⟩
set_option maxHeartbeats 4000000 in
theorem types_any (w : World) : Calls Tryz.prog 34 #[] w fun e w' => ∃ u, e = .returned u ∧ MapT u w' ∧ Below w.heap.size w w' := by
  have hm := fun W => run_makeMap (P := Tryz.prog) 76 W
  have hM0 : (w.alloc (.map #[] 0)).heap[w.heap.size]? = some (.map #[] 0) := heap_alloc_new w _
  have hS0 : (w.alloc (.map #[] 0)).heap.size = w.heap.size + 1 := by simp
  have hB0 : Below w.heap.size w (w.alloc (.map #[] 0)) := (Below.refl _ _).alloc (Nat.le_refl _) _
  have hR1 : RowS ((w.alloc (.map #[] 0)).alloc (.cells #[.string (⟨#[]⟩ : ByteArray), .string (⟨#[99, 104, 97, 116]⟩ : ByteArray), .string (⟨#[101, 114, 114, 111, 114]⟩ : ByteArray), .string (⟨#[103, 114, 111, 117, 112, 99, 104, 97, 116]⟩ : ByteArray), .string (⟨#[104, 101, 97, 100, 108, 105, 110, 101]⟩ : ByteArray), .string (⟨#[110, 111, 114, 109, 97, 108]⟩ : ByteArray)] 9)) (w.heap.size + 1) msgTypes := RowS.new _ _ _ msgTypes (by rw [hS0])
  have hA1 : ((w.alloc (.map #[] 0)).alloc (.cells #[.string (⟨#[]⟩ : ByteArray), .string (⟨#[99, 104, 97, 116]⟩ : ByteArray), .string (⟨#[101, 114, 114, 111, 114]⟩ : ByteArray), .string (⟨#[103, 114, 111, 117, 112, 99, 104, 97, 116]⟩ : ByteArray), .string (⟨#[104, 101, 97, 100, 108, 105, 110, 101]⟩ : ByteArray), .string (⟨#[110, 111, 114, 109, 97, 108]⟩ : ByteArray)] 9)).heap[w.heap.size]? = some (.map #[] 0) := heap_ext hM0 ((Below.refl _ _).alloc (Nat.le_refl _) _)
  have hC1 : Below w.heap.size w ((w.alloc (.map #[] 0)).alloc (.cells #[.string (⟨#[]⟩ : ByteArray), .string (⟨#[99, 104, 97, 116]⟩ : ByteArray), .string (⟨#[101, 114, 114, 111, 114]⟩ : ByteArray), .string (⟨#[103, 114, 111, 117, 112, 99, 104, 97, 116]⟩ : ByteArray), .string (⟨#[104, 101, 97, 100, 108, 105, 110, 101]⟩ : ByteArray), .string (⟨#[110, 111, 114, 109, 97, 108]⟩ : ByteArray)] 9)) := hB0.alloc hB0.size _
  have hp1 := put_u8 ((w.alloc (.map #[] 0)).alloc (.cells #[.string (⟨#[]⟩ : ByteArray), .string (⟨#[99, 104, 97, 116]⟩ : ByteArray), .string (⟨#[101, 114, 114, 111, 114]⟩ : ByteArray), .string (⟨#[103, 114, 111, 117, 112, 99, 104, 97, 116]⟩ : ByteArray), .string (⟨#[104, 101, 97, 100, 108, 105, 110, 101]⟩ : ByteArray), .string (⟨#[110, 111, 114, 109, 97, 108]⟩ : ByteArray)] 9)) w.heap.size #[] 0 1 (.slice (some ⟨w.heap.size + 1, 0, none⟩) 6 6) hA1 rfl
  obtain ⟨W1, hW1⟩ : ∃ W1, W1 = ({ ((w.alloc (.map #[] 0)).alloc (.cells #[.string (⟨#[]⟩ : ByteArray), .string (⟨#[99, 104, 97, 116]⟩ : ByteArray), .string (⟨#[101, 114, 114, 111, 114]⟩ : ByteArray), .string (⟨#[103, 114, 111, 117, 112, 99, 104, 97, 116]⟩ : ByteArray), .string (⟨#[104, 101, 97, 100, 108, 105, 110, 101]⟩ : ByteArray), .string (⟨#[110, 111, 114, 109, 97, 108]⟩ : ByteArray)] 9)) with heap := ((w.alloc (.map #[] 0)).alloc (.cells #[.string (⟨#[]⟩ : ByteArray), .string (⟨#[99, 104, 97, 116]⟩ : ByteArray), .string (⟨#[101, 114, 114, 111, 114]⟩ : ByteArray), .string (⟨#[103, 114, 111, 117, 112, 99, 104, 97, 116]⟩ : ByteArray), .string (⟨#[104, 101, 97, 100, 108, 105, 110, 101]⟩ : ByteArray), .string (⟨#[110, 111, 114, 109, 97, 108]⟩ : ByteArray)] 9)).heap.setIfInBounds w.heap.size (.map (#[].push { key := .int .u8 1, val := .slice (some ⟨w.heap.size + 1, 0, none⟩) 6 6, born := 0 }) (0 + 1)) } : World) := ⟨_, rfl⟩
  rw [← hW1] at hp1
  have hM1 : W1.heap[w.heap.size]? = some (.map #[⟨.int .u8 1, .slice (some ⟨w.heap.size + 1, 0, none⟩) 6 6, 0⟩] 1) := by rw [hW1]; exact set_at' (by have := hC1.size; have := (Array.getElem?_eq_some_iff.1 hA1).1; omega)
  have hS1 : W1.heap.size = w.heap.size + 1 + 1 := by rw [hW1]; show (Array.setIfInBounds _ _ _).size = _; simp [hS0]
  have hB1 : Below w.heap.size w W1 := by rw [hW1]; exact below_set hC1 (Nat.le_refl _)
  have hR1' : RowS W1 (w.heap.size + 1) msgTypes := by rw [hW1]; exact RowS.set hR1 (by omega)
  clear hW1
  have hR2 : RowS (W1.alloc (.cells #[.string (⟨#[]⟩ : ByteArray), .string (⟨#[117, 110, 97, 118, 97, 105, 108, 97, 98, 108, 101]⟩ : ByteArray), .string (⟨#[115, 117, 98, 115, 99, 114, 105, 98, 101]⟩ : ByteArray), .string (⟨#[115, 117, 98, 115, 99, 114, 105, 98, 101, 100]⟩ : ByteArray), .string (⟨#[117, 110, 115, 117, 98, 115, 99, 114, 105, 98, 101]⟩ : ByteArray), .string (⟨#[117, 110, 115, 117, 98, 115, 99, 114, 105, 98, 101, 100]⟩ : ByteArray), .string (⟨#[112, 114, 111, 98, 101]⟩ : ByteArray), .string (⟨#[101, 114, 114, 111, 114]⟩ : ByteArray)] 9)) (w.heap.size + 1 + 1) preTypes := RowS.new _ _ _ preTypes (by rw [hS1])
  have hr11 : RowS (W1.alloc (.cells #[.string (⟨#[]⟩ : ByteArray), .string (⟨#[117, 110, 97, 118, 97, 105, 108, 97, 98, 108, 101]⟩ : ByteArray), .string (⟨#[115, 117, 98, 115, 99, 114, 105, 98, 101]⟩ : ByteArray), .string (⟨#[115, 117, 98, 115, 99, 114, 105, 98, 101, 100]⟩ : ByteArray), .string (⟨#[117, 110, 115, 117, 98, 115, 99, 114, 105, 98, 101]⟩ : ByteArray), .string (⟨#[117, 110, 115, 117, 98, 115, 99, 114, 105, 98, 101, 100]⟩ : ByteArray), .string (⟨#[112, 114, 111, 98, 101]⟩ : ByteArray), .string (⟨#[101, 114, 114, 111, 114]⟩ : ByteArray)] 9)) (w.heap.size + 1) msgTypes := RowS.alloc hR1' _
  have hA2 : (W1.alloc (.cells #[.string (⟨#[]⟩ : ByteArray), .string (⟨#[117, 110, 97, 118, 97, 105, 108, 97, 98, 108, 101]⟩ : ByteArray), .string (⟨#[115, 117, 98, 115, 99, 114, 105, 98, 101]⟩ : ByteArray), .string (⟨#[115, 117, 98, 115, 99, 114, 105, 98, 101, 100]⟩ : ByteArray), .string (⟨#[117, 110, 115, 117, 98, 115, 99, 114, 105, 98, 101]⟩ : ByteArray), .string (⟨#[117, 110, 115, 117, 98, 115, 99, 114, 105, 98, 101, 100]⟩ : ByteArray), .string (⟨#[112, 114, 111, 98, 101]⟩ : ByteArray), .string (⟨#[101, 114, 114, 111, 114]⟩ : ByteArray)] 9)).heap[w.heap.size]? = some (.map #[⟨.int .u8 1, .slice (some ⟨w.heap.size + 1, 0, none⟩) 6 6, 0⟩] 1) := heap_ext hM1 ((Below.refl _ _).alloc (Nat.le_refl _) _)
  have hC2 : Below w.heap.size w (W1.alloc (.cells #[.string (⟨#[]⟩ : ByteArray), .string (⟨#[117, 110, 97, 118, 97, 105, 108, 97, 98, 108, 101]⟩ : ByteArray), .string (⟨#[115, 117, 98, 115, 99, 114, 105, 98, 101]⟩ : ByteArray), .string (⟨#[115, 117, 98, 115, 99, 114, 105, 98, 101, 100]⟩ : ByteArray), .string (⟨#[117, 110, 115, 117, 98, 115, 99, 114, 105, 98, 101]⟩ : ByteArray), .string (⟨#[117, 110, 115, 117, 98, 115, 99, 114, 105, 98, 101, 100]⟩ : ByteArray), .string (⟨#[112, 114, 111, 98, 101]⟩ : ByteArray), .string (⟨#[101, 114, 114, 111, 114]⟩ : ByteArray)] 9)) := hB1.alloc hB1.size _
  have hp2 := put_u8 (W1.alloc (.cells #[.string (⟨#[]⟩ : ByteArray), .string (⟨#[117, 110, 97, 118, 97, 105, 108, 97, 98, 108, 101]⟩ : ByteArray), .string (⟨#[115, 117, 98, 115, 99, 114, 105, 98, 101]⟩ : ByteArray), .string (⟨#[115, 117, 98, 115, 99, 114, 105, 98, 101, 100]⟩ : ByteArray), .string (⟨#[117, 110, 115, 117, 98, 115, 99, 114, 105, 98, 101]⟩ : ByteArray), .string (⟨#[117, 110, 115, 117, 98, 115, 99, 114, 105, 98, 101, 100]⟩ : ByteArray), .string (⟨#[112, 114, 111, 98, 101]⟩ : ByteArray), .string (⟨#[101, 114, 114, 111, 114]⟩ : ByteArray)] 9)) w.heap.size #[⟨.int .u8 1, .slice (some ⟨w.heap.size + 1, 0, none⟩) 6 6, 0⟩] 1 2 (.slice (some ⟨w.heap.size + 1 + 1, 0, none⟩) 8 8) hA2 rfl
  obtain ⟨W2, hW2⟩ : ∃ W2, W2 = ({ (W1.alloc (.cells #[.string (⟨#[]⟩ : ByteArray), .string (⟨#[117, 110, 97, 118, 97, 105, 108, 97, 98, 108, 101]⟩ : ByteArray), .string (⟨#[115, 117, 98, 115, 99, 114, 105, 98, 101]⟩ : ByteArray), .string (⟨#[115, 117, 98, 115, 99, 114, 105, 98, 101, 100]⟩ : ByteArray), .string (⟨#[117, 110, 115, 117, 98, 115, 99, 114, 105, 98, 101]⟩ : ByteArray), .string (⟨#[117, 110, 115, 117, 98, 115, 99, 114, 105, 98, 101, 100]⟩ : ByteArray), .string (⟨#[112, 114, 111, 98, 101]⟩ : ByteArray), .string (⟨#[101, 114, 114, 111, 114]⟩ : ByteArray)] 9)) with heap := (W1.alloc (.cells #[.string (⟨#[]⟩ : ByteArray), .string (⟨#[117, 110, 97, 118, 97, 105, 108, 97, 98, 108, 101]⟩ : ByteArray), .string (⟨#[115, 117, 98, 115, 99, 114, 105, 98, 101]⟩ : ByteArray), .string (⟨#[115, 117, 98, 115, 99, 114, 105, 98, 101, 100]⟩ : ByteArray), .string (⟨#[117, 110, 115, 117, 98, 115, 99, 114, 105, 98, 101]⟩ : ByteArray), .string (⟨#[117, 110, 115, 117, 98, 115, 99, 114, 105, 98, 101, 100]⟩ : ByteArray), .string (⟨#[112, 114, 111, 98, 101]⟩ : ByteArray), .string (⟨#[101, 114, 114, 111, 114]⟩ : ByteArray)] 9)).heap.setIfInBounds w.heap.size (.map (#[⟨.int .u8 1, .slice (some ⟨w.heap.size + 1, 0, none⟩) 6 6, 0⟩].push { key := .int .u8 2, val := .slice (some ⟨w.heap.size + 1 + 1, 0, none⟩) 8 8, born := 1 }) (1 + 1)) } : World) := ⟨_, rfl⟩
  rw [← hW2] at hp2
  have hM2 : W2.heap[w.heap.size]? = some (.map #[⟨.int .u8 1, .slice (some ⟨w.heap.size + 1, 0, none⟩) 6 6, 0⟩, ⟨.int .u8 2, .slice (some ⟨w.heap.size + 1 + 1, 0, none⟩) 8 8, 1⟩] 2) := by rw [hW2]; exact set_at' (by have := hC2.size; have := (Array.getElem?_eq_some_iff.1 hA2).1; omega)
  have hS2 : W2.heap.size = w.heap.size + 1 + 1 + 1 := by rw [hW2]; show (Array.setIfInBounds _ _ _).size = _; simp [hS1]
  have hB2 : Below w.heap.size w W2 := by rw [hW2]; exact below_set hC2 (Nat.le_refl _)
  have hR1'' : RowS W2 (w.heap.size + 1) msgTypes := by rw [hW2]; exact RowS.set hr11 (by omega)
  have hR2' : RowS W2 (w.heap.size + 1 + 1) preTypes := by rw [hW2]; exact RowS.set hR2 (by omega)
  clear hW2
  have hR3 : RowS (W2.alloc (.cells #[.string (⟨#[103, 101, 116]⟩ : ByteArray), .string (⟨#[115, 101, 116]⟩ : ByteArray), .string (⟨#[114, 101, 115, 117, 108, 116]⟩ : ByteArray), .string (⟨#[101, 114, 114, 111, 114]⟩ : ByteArray)] 9)) (w.heap.size + 1 + 1 + 1) iqTypes := RowS.new _ _ _ iqTypes (by rw [hS2])
  have hr12 : RowS (W2.alloc (.cells #[.string (⟨#[103, 101, 116]⟩ : ByteArray), .string (⟨#[115, 101, 116]⟩ : ByteArray), .string (⟨#[114, 101, 115, 117, 108, 116]⟩ : ByteArray), .string (⟨#[101, 114, 114, 111, 114]⟩ : ByteArray)] 9)) (w.heap.size + 1) msgTypes := RowS.alloc hR1'' _
  have hr22 : RowS (W2.alloc (.cells #[.string (⟨#[103, 101, 116]⟩ : ByteArray), .string (⟨#[115, 101, 116]⟩ : ByteArray), .string (⟨#[114, 101, 115, 117, 108, 116]⟩ : ByteArray), .string (⟨#[101, 114, 114, 111, 114]⟩ : ByteArray)] 9)) (w.heap.size + 1 + 1) preTypes := RowS.alloc hR2' _
  have hA3 : (W2.alloc (.cells #[.string (⟨#[103, 101, 116]⟩ : ByteArray), .string (⟨#[115, 101, 116]⟩ : ByteArray), .string (⟨#[114, 101, 115, 117, 108, 116]⟩ : ByteArray), .string (⟨#[101, 114, 114, 111, 114]⟩ : ByteArray)] 9)).heap[w.heap.size]? = some (.map #[⟨.int .u8 1, .slice (some ⟨w.heap.size + 1, 0, none⟩) 6 6, 0⟩, ⟨.int .u8 2, .slice (some ⟨w.heap.size + 1 + 1, 0, none⟩) 8 8, 1⟩] 2) := heap_ext hM2 ((Below.refl _ _).alloc (Nat.le_refl _) _)
  have hC3 : Below w.heap.size w (W2.alloc (.cells #[.string (⟨#[103, 101, 116]⟩ : ByteArray), .string (⟨#[115, 101, 116]⟩ : ByteArray), .string (⟨#[114, 101, 115, 117, 108, 116]⟩ : ByteArray), .string (⟨#[101, 114, 114, 111, 114]⟩ : ByteArray)] 9)) := hB2.alloc hB2.size _
  have hp3 := put_u8 (W2.alloc (.cells #[.string (⟨#[103, 101, 116]⟩ : ByteArray), .string (⟨#[115, 101, 116]⟩ : ByteArray), .string (⟨#[114, 101, 115, 117, 108, 116]⟩ : ByteArray), .string (⟨#[101, 114, 114, 111, 114]⟩ : ByteArray)] 9)) w.heap.size #[⟨.int .u8 1, .slice (some ⟨w.heap.size + 1, 0, none⟩) 6 6, 0⟩, ⟨.int .u8 2, .slice (some ⟨w.heap.size + 1 + 1, 0, none⟩) 8 8, 1⟩] 2 3 (.slice (some ⟨w.heap.size + 1 + 1 + 1, 0, none⟩) 4 4) hA3 rfl
  obtain ⟨W3, hW3⟩ : ∃ W3, W3 = ({ (W2.alloc (.cells #[.string (⟨#[103, 101, 116]⟩ : ByteArray), .string (⟨#[115, 101, 116]⟩ : ByteArray), .string (⟨#[114, 101, 115, 117, 108, 116]⟩ : ByteArray), .string (⟨#[101, 114, 114, 111, 114]⟩ : ByteArray)] 9)) with heap := (W2.alloc (.cells #[.string (⟨#[103, 101, 116]⟩ : ByteArray), .string (⟨#[115, 101, 116]⟩ : ByteArray), .string (⟨#[114, 101, 115, 117, 108, 116]⟩ : ByteArray), .string (⟨#[101, 114, 114, 111, 114]⟩ : ByteArray)] 9)).heap.setIfInBounds w.heap.size (.map (#[⟨.int .u8 1, .slice (some ⟨w.heap.size + 1, 0, none⟩) 6 6, 0⟩, ⟨.int .u8 2, .slice (some ⟨w.heap.size + 1 + 1, 0, none⟩) 8 8, 1⟩].push { key := .int .u8 3, val := .slice (some ⟨w.heap.size + 1 + 1 + 1, 0, none⟩) 4 4, born := 2 }) (2 + 1)) } : World) := ⟨_, rfl⟩
  rw [← hW3] at hp3
  have hM3 : W3.heap[w.heap.size]? = some (.map #[⟨.int .u8 1, .slice (some ⟨w.heap.size + 1, 0, none⟩) 6 6, 0⟩, ⟨.int .u8 2, .slice (some ⟨w.heap.size + 1 + 1, 0, none⟩) 8 8, 1⟩, ⟨.int .u8 3, .slice (some ⟨w.heap.size + 1 + 1 + 1, 0, none⟩) 4 4, 2⟩] 3) := by rw [hW3]; exact set_at' (by have := hC3.size; have := (Array.getElem?_eq_some_iff.1 hA3).1; omega)
  have hS3 : W3.heap.size = w.heap.size + 1 + 1 + 1 + 1 := by rw [hW3]; show (Array.setIfInBounds _ _ _).size = _; simp [hS2]
  have hB3 : Below w.heap.size w W3 := by rw [hW3]; exact below_set hC3 (Nat.le_refl _)
  have hR1''' : RowS W3 (w.heap.size + 1) msgTypes := by rw [hW3]; exact RowS.set hr12 (by omega)
  have hR2'' : RowS W3 (w.heap.size + 1 + 1) preTypes := by rw [hW3]; exact RowS.set hr22 (by omega)
  have hR3' : RowS W3 (w.heap.size + 1 + 1 + 1) iqTypes := by rw [hW3]; exact RowS.set hR3 (by omega)
  clear hW3
  have HM := Lib.hid hM3
  have HB := Lib.hid hB3
  have H1 := Lib.hid hR1'''
  have H2 := Lib.hid hR2''
  have H3 := Lib.hid hR3'
  clear hM0 hM1 hM2 hM3 hB0 hB1 hB2 hB3 hR1 hR2 hR3 hR1' hR1'' hR1''' hR2' hR2'' hR3' hr11 hr12 hr22 hA1 hA2 hA3 hC1 hC2 hC3 hS0 hS3
  go_enter Tryz.func34, Tryz.ntmps34
  go_wp2
  go_ret
  exact ⟨_, rfl, ⟨w.heap.size, _, _, _, 3, rfl, HM.out, H1.out.rds, H2.out.rds, H3.out.rds⟩, HB.out⟩
end Go.Proofs.YtnfokaecobddkaaGreatDoor
end
section
namespace Go.Proofs.YtnfokaecobddkaaGreatDoor
open Go.RowKit
set_option linter.unusedSimpArgs false
set_option linter.unusedVariables false
theorem size_attrs (W : World) : (sizeOf (Tryz.prog.elem 67)).run Tryz.prog W = .ok 3 W := by kernel_rfl
theorem front_attrs (A : Option Addr) (m c K : Nat) (hK : K ≤ m) (hc : m ≤ c) : ∃ A', (∀ W, (Instr.slice 67 (.slice A m c) none (some (.int .i64 (K : Int))) none).run Tryz.prog W = .ok (.slice A' K c) W) ∧
    ∀ W B (l : List AttrL), l.length = m → RdA W B A l → RdA W B A' (l.take K) := by
  refine ⟨if c = 0 then A else A.map (·.add (0 * 3)), fun W => ?_, fun W B l hl h => ?_⟩
  · rw [run_slice_h W 67 A m c (by kernel_rfl) .i64 K (by omega) (by omega), size_attrs]
    rfl
  · intro h0
    rw [List.length_take] at h0
    obtain ⟨b, off, rfl, hb, hcell⟩ := h (by omega)
    rw [if_neg (by omega)]
    refine ⟨b, off, by simp [Addr.add], hb, fun i a hi => hcell i a ?_⟩
    rw [List.getElem?_take] at hi
    split at hi
    · exact hi
    · cases hi
theorem cell_lt {w : World} {b o : Nat} {v : Value} (h : w.cell? ⟨b, o, none⟩ = some v) : b < w.heap.size := World.block_lt_of_cell? w _ h
set_option maxHeartbeats 1000000 in
theorem attrs1_any (a b : AttrL) (B : Nat) (w : World) (c0 : w.cell? ⟨B, 0, none⟩ = some (.string a.space)) (c1 : w.cell? ⟨B, 1, none⟩ = some (.string a.name)) :
    Calls Tryz.prog 173 #[encA b, .pointer (some ⟨B, 0, none⟩)] w fun e w' => e = .returned (.bool (dupA a b)) ∧ Below w.heap.size w w' := by
  have hB := cell_lt c0
  have hne : B ≠ w.heap.size := by omega
  have hX := Lib.hid ((Below.refl w.heap.size w).alloc (Nat.le_refl _) (.cells #[.string b.space, .string b.name, .string b.value] 80))
  have HD : Box (dupA a b = (eqS a.space b.space && eqS a.name b.name)) := ⟨rfl⟩
  unfold eqS at HD
  generalize dupA a b = r at *
  cases hq : a.space.toList == b.space.toList with
  | false =>
    rw [hq] at HD
    unfold encA
    go_enter Tryz.func173, Tryz.ntmps173
    go_wp2
    go_ret
    exact ⟨ret_bool (by rw [HD.out]; rfl), hX.out⟩
  | true =>
    rw [hq] at HD
    unfold encA
    go_enter Tryz.func173, Tryz.ntmps173
    go_wp2
    go_ret
    exact ⟨ret_bool (by rw [HD.out]; rfl), hX.out⟩
end Go.Proofs.YtnfokaecobddkaaGreatDoor
end
section
namespace Go.Proofs.YtnfokaecobddkaaGreatDoor
open Go.RowKit
set_option linter.unusedSimpArgs false
set_option linter.unusedVariables false
theorem sz_get {l : List AttrL} {M : Nat} (h : ∀ a ∈ l, SzA M a) {k : Nat} {x : AttrL} (hx : l[k]? = some x) : SzA M x := h x (List.mem_of_getElem? hx)
set_option maxHeartbeats 4000000 in
set_option maxRecDepth 10000 in
theorem attrs_any (A : Option Addr) (c : Nat) (l : List AttrL) (w : World) (hr : RdA w w.heap.size A l) (hc : l.length ≤ c) (hn : l.length ≤ 1000000000) (hz : ∀ a ∈ l, SzA 1000000000 a) :
    Calls Tryz.prog 120 #[.slice A l.length c] w fun e w' => e = .returned (.bool (attrsI l)) ∧ Below w.heap.size w w' := by
  have HR := Lib.hid hr
  have HZ := Lib.hid hz
  have HI : Box (attrsI l = (attrsT l l.length && decide (l.length ≤ 16))) := ⟨rfl⟩
  clear hr hz
  generalize attrsI l = ri at *
  go_enter Tryz.func120, Tryz.ntmps120
  go_wp2
  go_loopw [3, 4, 5, 8] (fun _ _ _ s8 wr => ∃ k : Nat, k ≤ l.length ∧ s8 = .int .i64 k ∧ Hid (Below w.heap.size w wr) ∧ Hid (attrsT l k = true)) (fun _ _ _ s8 _ => l.length - (intOf s8).toNat)
  case atStart => exact ⟨0, Nat.zero_le _, rfl, Lib.hid (Below.refl _ _), rfl⟩
  case round =>
    obtain ⟨k, hk, rfl, HB, HN⟩ := hrel
    by_cases hlt : k < l.length
    · obtain ⟨x, hx⟩ : ∃ x, l[k]? = some x := ⟨_, List.getElem?_eq_getElem hlt⟩
      have HX := Lib.hid hx
      obtain ⟨b, off, rfl, hb, hcc⟩ := HR.out (by omega)
      obtain ⟨c0, c1, c2⟩ := (hcc k x hx).keep (w' := wr) hb (fun q hq => HB.out.cell hq)
      obtain ⟨z0, z1, z2⟩ := sz_get HZ.out hx
      have hsz := HB.out.size
      obtain ⟨A', hA', hAr⟩ := front_attrs (some ⟨b, off, none⟩) l.length c k hk hc
      have eg := enters_of (P := Tryz.prog) Tryz.func173 (by kernel_rfl) rfl
      have hlk : (l.take k).length = k := by rw [List.length_take]; omega
      have HX0 : Hid (Below w.heap.size w (wr.alloc (.cells #[.string x.space, .string x.name, .string x.value] 80))) := HB.out.alloc hsz _
      obtain ⟨W0, hW0⟩ : ∃ W0, W0 = wr.alloc (.cells #[.string x.space, .string x.name, .string x.value] 80) := ⟨_, rfl⟩
      have hs0 : wr.heap.size < W0.heap.size := by rw [hW0]; simp
      have HD0 : Hid (∀ W, Below W0.heap.size W0 W → W.cell? ⟨wr.heap.size, 0, none⟩ = some (.string x.space)) := Lib.hid (fun W hW => (hW.cell hs0).trans (by rw [hW0]; simp))
      have HD1 : Hid (∀ W, Below W0.heap.size W0 W → W.cell? ⟨wr.heap.size, 1, none⟩ = some (.string x.name)) := Lib.hid (fun W hW => (hW.cell hs0).trans (by rw [hW0]; simp))
      have HD2 : Hid (∀ W, Below W0.heap.size W0 W → W.cell? ⟨wr.heap.size, 2, none⟩ = some (.string x.value)) := Lib.hid (fun W hW => (hW.cell hs0).trans (by rw [hW0]; simp))
      rw [← hW0] at HX0
      have hcall := hasA_any 173 #[.pointer (some ⟨wr.heap.size, 0, none⟩)] A' c (l.take k) (dupA x) W0 (((hAr w w.heap.size l rfl HR.out).below HX0.out (Nat.le_refl _)).more HX0.out.size) (by omega) eg
        (fun W i y hW hy => (attrs1_any x y wr.heap.size W (HD0.out W hW) (HD1.out W hW)).mono fun e w' h => ⟨h.1, hW.trans (h.2.mono hW.size)⟩)
      rw [hlk] at hcall
      have HC := Lib.hid hcall
      have HT : Box (attrsT l (k + 1) = (!(l.take k).any (dupA x) && (fullI x.name && decide (textErr x.value = 0) && decide (textErr x.space = 0)))) := ⟨by rw [attrsT_succ l k x hx, HN.out]; rfl⟩
      have HNO := Lib.hid (attrsT_no l (k + 1) l.length hlt)
      have H1 := Lib.hid (fun W => full_any x.name W z1)
      have H2 := Lib.hid (fun W => check5_any x.value W z2)
      have H3 := Lib.hid (fun W => check5_any x.space W z0)
      have hWE := hW0
      clear hx hcc hAr hcall hlk eg
      generalize (l.take k).any (dupA x) = q0 at *
      generalize fullI x.name = q1 at *
      generalize textErr x.value = t2 at *
      generalize textErr x.space = t3 at *
      cases q0 with
      | true =>
        go_wp2_with fail
        rw [← hWE]
        refine HC.out.mono ?_
        rintro e w1 ⟨rfl, hb1⟩
        have X1 := Lib.hid (HX0.out.trans (hb1.mono HX0.out.size))
        clear hb1 hWE hW0
        go_wp2
        go_ret
        exact ⟨ret_bool (by rw [HI.out, HNO.out (by rw [HT.out]; rfl)]; rfl), X1.out⟩
      | false =>
        cases q1 with
        | false =>
          go_wp2_with fail
          rw [← hWE]
          refine HC.out.mono ?_
          rintro e w1 ⟨rfl, hb1⟩
          clear hWE hW0
          have X1 : Hid (Below W0.heap.size W0 w1) := Lib.hid (ext_step (Below.refl W0.heap.size W0) (by first | exact Below.refl _ _ | exact (Below.refl _ _).alloc (Nat.le_refl _) _ | exact ((Below.refl _ _).alloc (Nat.le_refl _) _).alloc (by simp) _ | exact (((Below.refl _ _).alloc (Nat.le_refl _) _).alloc (by simp) _).alloc (by simp) _ | exact (Below.refl _ _).drew | exact ((Below.refl _ _).alloc (Nat.le_refl _) _).drew) hb1 (Below.refl W0.heap.size W0).size)
          clear hb1
          try clear d0 d1 d2
          have d0 := HD0.out _ X1.out
          have d1 := HD1.out _ X1.out
          have d2 := HD2.out _ X1.out
          go_wp2_with fail
          refine (H1.out _).mono ?_
          rintro e w2 ⟨rfl, hb2⟩
          have X2 : Hid (Below W0.heap.size W0 w2) := Lib.hid (ext_step (X1.out) (by first | exact Below.refl _ _ | exact (Below.refl _ _).alloc (Nat.le_refl _) _ | exact ((Below.refl _ _).alloc (Nat.le_refl _) _).alloc (by simp) _ | exact (((Below.refl _ _).alloc (Nat.le_refl _) _).alloc (by simp) _).alloc (by simp) _ | exact (Below.refl _ _).drew | exact ((Below.refl _ _).alloc (Nat.le_refl _) _).drew) hb2 (X1.out).size)
          clear hb2
          try clear d0 d1 d2
          have d0 := HD0.out _ X2.out
          have d1 := HD1.out _ X2.out
          have d2 := HD2.out _ X2.out
          go_wp2
          go_ret
          exact ⟨ret_bool (by rw [HI.out, HNO.out (by rw [HT.out]; rfl)]; rfl), HX0.out.trans (X2.out.mono HX0.out.size)⟩
        | true =>
          by_cases e2 : t2 = 0
          · subst e2
            by_cases e3 : t3 = 0
            · subst e3
              go_wp2_with fail
              rw [← hWE]
              refine HC.out.mono ?_
              rintro e w1 ⟨rfl, hb1⟩
              clear hWE hW0
              have X1 : Hid (Below W0.heap.size W0 w1) := Lib.hid (ext_step (Below.refl W0.heap.size W0) (by first | exact Below.refl _ _ | exact (Below.refl _ _).alloc (Nat.le_refl _) _ | exact ((Below.refl _ _).alloc (Nat.le_refl _) _).alloc (by simp) _ | exact (((Below.refl _ _).alloc (Nat.le_refl _) _).alloc (by simp) _).alloc (by simp) _ | exact (Below.refl _ _).drew | exact ((Below.refl _ _).alloc (Nat.le_refl _) _).drew) hb1 (Below.refl W0.heap.size W0).size)
              clear hb1
              try clear d0 d1 d2
              have d0 := HD0.out _ X1.out
              have d1 := HD1.out _ X1.out
              have d2 := HD2.out _ X1.out
              go_wp2_with fail
              refine (H1.out _).mono ?_
              rintro e w2 ⟨rfl, hb2⟩
              have X2 : Hid (Below W0.heap.size W0 w2) := Lib.hid (ext_step (X1.out) (by first | exact Below.refl _ _ | exact (Below.refl _ _).alloc (Nat.le_refl _) _ | exact ((Below.refl _ _).alloc (Nat.le_refl _) _).alloc (by simp) _ | exact (((Below.refl _ _).alloc (Nat.le_refl _) _).alloc (by simp) _).alloc (by simp) _ | exact (Below.refl _ _).drew | exact ((Below.refl _ _).alloc (Nat.le_refl _) _).drew) hb2 (X1.out).size)
              clear hb2
              try clear d0 d1 d2
              have d0 := HD0.out _ X2.out
              have d1 := HD1.out _ X2.out
              have d2 := HD2.out _ X2.out
              go_wp2_with fail
              refine (H2.out _).mono ?_
              rintro e w3 ⟨rfl, hb3⟩
              have X3 : Hid (Below W0.heap.size W0 w3) := Lib.hid (ext_step (X2.out) (by first | exact Below.refl _ _ | exact (Below.refl _ _).alloc (Nat.le_refl _) _ | exact ((Below.refl _ _).alloc (Nat.le_refl _) _).alloc (by simp) _ | exact (((Below.refl _ _).alloc (Nat.le_refl _) _).alloc (by simp) _).alloc (by simp) _ | exact (Below.refl _ _).drew | exact ((Below.refl _ _).alloc (Nat.le_refl _) _).drew) hb3 (X2.out).size)
              clear hb3
              try clear d0 d1 d2
              have d0 := HD0.out _ X3.out
              have d1 := HD1.out _ X3.out
              have d2 := HD2.out _ X3.out
              go_wp2_with fail
              refine (H3.out _).mono ?_
              rintro e w4 ⟨rfl, hb4⟩
              have X4 : Hid (Below W0.heap.size W0 w4) := Lib.hid (ext_step (X3.out) (by first | exact Below.refl _ _ | exact (Below.refl _ _).alloc (Nat.le_refl _) _ | exact ((Below.refl _ _).alloc (Nat.le_refl _) _).alloc (by simp) _ | exact (((Below.refl _ _).alloc (Nat.le_refl _) _).alloc (by simp) _).alloc (by simp) _ | exact (Below.refl _ _).drew | exact ((Below.refl _ _).alloc (Nat.le_refl _) _).drew) hb4 (X3.out).size)
              clear hb4
              go_wp2
              go_roundw
              case rel => exact ⟨k + 1, by omega, by go_num, Lib.hid (HX0.out.trans (X4.out.mono HX0.out.size)), HT.out⟩
              case measure => simp [intOf]; omega
            · have hq3 : (t3 != 0) = true := by simpa using e3
              have HQ3 : Box (decide (t3 = 0) = false) := ⟨decide_eq_false e3⟩
              clear e3
              go_wp2_with fail
              rw [← hWE]
              refine HC.out.mono ?_
              rintro e w1 ⟨rfl, hb1⟩
              clear hWE hW0
              have X1 : Hid (Below W0.heap.size W0 w1) := Lib.hid (ext_step (Below.refl W0.heap.size W0) (by first | exact Below.refl _ _ | exact (Below.refl _ _).alloc (Nat.le_refl _) _ | exact ((Below.refl _ _).alloc (Nat.le_refl _) _).alloc (by simp) _ | exact (((Below.refl _ _).alloc (Nat.le_refl _) _).alloc (by simp) _).alloc (by simp) _ | exact (Below.refl _ _).drew | exact ((Below.refl _ _).alloc (Nat.le_refl _) _).drew) hb1 (Below.refl W0.heap.size W0).size)
              clear hb1
              try clear d0 d1 d2
              have d0 := HD0.out _ X1.out
              have d1 := HD1.out _ X1.out
              have d2 := HD2.out _ X1.out
              go_wp2_with fail
              refine (H1.out _).mono ?_
              rintro e w2 ⟨rfl, hb2⟩
              have X2 : Hid (Below W0.heap.size W0 w2) := Lib.hid (ext_step (X1.out) (by first | exact Below.refl _ _ | exact (Below.refl _ _).alloc (Nat.le_refl _) _ | exact ((Below.refl _ _).alloc (Nat.le_refl _) _).alloc (by simp) _ | exact (((Below.refl _ _).alloc (Nat.le_refl _) _).alloc (by simp) _).alloc (by simp) _ | exact (Below.refl _ _).drew | exact ((Below.refl _ _).alloc (Nat.le_refl _) _).drew) hb2 (X1.out).size)
              clear hb2
              try clear d0 d1 d2
              have d0 := HD0.out _ X2.out
              have d1 := HD1.out _ X2.out
              have d2 := HD2.out _ X2.out
              go_wp2_with fail
              refine (H2.out _).mono ?_
              rintro e w3 ⟨rfl, hb3⟩
              have X3 : Hid (Below W0.heap.size W0 w3) := Lib.hid (ext_step (X2.out) (by first | exact Below.refl _ _ | exact (Below.refl _ _).alloc (Nat.le_refl _) _ | exact ((Below.refl _ _).alloc (Nat.le_refl _) _).alloc (by simp) _ | exact (((Below.refl _ _).alloc (Nat.le_refl _) _).alloc (by simp) _).alloc (by simp) _ | exact (Below.refl _ _).drew | exact ((Below.refl _ _).alloc (Nat.le_refl _) _).drew) hb3 (X2.out).size)
              clear hb3
              try clear d0 d1 d2
              have d0 := HD0.out _ X3.out
              have d1 := HD1.out _ X3.out
              have d2 := HD2.out _ X3.out
              go_wp2_with fail
              refine (H3.out _).mono ?_
              rintro e w4 ⟨rfl, hb4⟩
              have X4 : Hid (Below W0.heap.size W0 w4) := Lib.hid (ext_step (X3.out) (by first | exact Below.refl _ _ | exact (Below.refl _ _).alloc (Nat.le_refl _) _ | exact ((Below.refl _ _).alloc (Nat.le_refl _) _).alloc (by simp) _ | exact (((Below.refl _ _).alloc (Nat.le_refl _) _).alloc (by simp) _).alloc (by simp) _ | exact (Below.refl _ _).drew | exact ((Below.refl _ _).alloc (Nat.le_refl _) _).drew) hb4 (X3.out).size)
              clear hb4
              go_wp2
              go_ret
              exact ⟨ret_bool (by rw [HI.out, HNO.out (by rw [HT.out, HQ3.out]; rfl)]; rfl), HX0.out.trans (X4.out.mono HX0.out.size)⟩
          · have hq2 : (t2 != 0) = true := by simpa using e2
            have HQ2 : Box (decide (t2 = 0) = false) := ⟨decide_eq_false e2⟩
            clear e2
            go_wp2_with fail
            rw [← hWE]
            refine HC.out.mono ?_
            rintro e w1 ⟨rfl, hb1⟩
            clear hWE hW0
            have X1 : Hid (Below W0.heap.size W0 w1) := Lib.hid (ext_step (Below.refl W0.heap.size W0) (by first | exact Below.refl _ _ | exact (Below.refl _ _).alloc (Nat.le_refl _) _ | exact ((Below.refl _ _).alloc (Nat.le_refl _) _).alloc (by simp) _ | exact (((Below.refl _ _).alloc (Nat.le_refl _) _).alloc (by simp) _).alloc (by simp) _ | exact (Below.refl _ _).drew | exact ((Below.refl _ _).alloc (Nat.le_refl _) _).drew) hb1 (Below.refl W0.heap.size W0).size)
            clear hb1
            try clear d0 d1 d2
            have d0 := HD0.out _ X1.out
            have d1 := HD1.out _ X1.out
            have d2 := HD2.out _ X1.out
            go_wp2_with fail
            refine (H1.out _).mono ?_
            rintro e w2 ⟨rfl, hb2⟩
            have X2 : Hid (Below W0.heap.size W0 w2) := Lib.hid (ext_step (X1.out) (by first | exact Below.refl _ _ | exact (Below.refl _ _).alloc (Nat.le_refl _) _ | exact ((Below.refl _ _).alloc (Nat.le_refl _) _).alloc (by simp) _ | exact (((Below.refl _ _).alloc (Nat.le_refl _) _).alloc (by simp) _).alloc (by simp) _ | exact (Below.refl _ _).drew | exact ((Below.refl _ _).alloc (Nat.le_refl _) _).drew) hb2 (X1.out).size)
            clear hb2
            try clear d0 d1 d2
            have d0 := HD0.out _ X2.out
            have d1 := HD1.out _ X2.out
            have d2 := HD2.out _ X2.out
            go_wp2_with fail
            refine (H2.out _).mono ?_
            rintro e w3 ⟨rfl, hb3⟩
            have X3 : Hid (Below W0.heap.size W0 w3) := Lib.hid (ext_step (X2.out) (by first | exact Below.refl _ _ | exact (Below.refl _ _).alloc (Nat.le_refl _) _ | exact ((Below.refl _ _).alloc (Nat.le_refl _) _).alloc (by simp) _ | exact (((Below.refl _ _).alloc (Nat.le_refl _) _).alloc (by simp) _).alloc (by simp) _ | exact (Below.refl _ _).drew | exact ((Below.refl _ _).alloc (Nat.le_refl _) _).drew) hb3 (X2.out).size)
            clear hb3
            go_wp2
            go_ret
            exact ⟨ret_bool (by rw [HI.out, HNO.out (by rw [HT.out, HQ2.out]; rfl)]; rfl), HX0.out.trans (X3.out.mono HX0.out.size)⟩
    · obtain rfl : k = l.length := by omega
      have HT := Box.mk HN.out
      have HB2 := HB
      by_cases h16 : l.length ≤ 16
      · have h16' : (l.length : Int) ≤ 16 := by omega
        go_wp2
        go_ret
        exact ⟨ret_bool (by rw [HI.out, HT.out, decide_eq_true h16]; rfl), HB2.out⟩
      · have h16' : ¬ (l.length : Int) ≤ 16 := by omega
        go_wp2
        go_ret
        exact ⟨ret_bool (by rw [HI.out, HT.out, decide_eq_false h16]; rfl), HB2.out⟩
end Go.Proofs.YtnfokaecobddkaaGreatDoor
end
section
namespace Go.Proofs.YtnfokaecobddkaaGreatDoor
open Go.RowKit
set_option linter.unusedSimpArgs false
set_option linter.unusedVariables false
end Go.Proofs.YtnfokaecobddkaaGreatDoor
end
section
namespace Go.Proofs.YtnfokaecobddkaaGreatDoor
open Go.RowKit
set_option linter.unusedSimpArgs false
set_option linter.unusedVariables false
theorem emp_is (s : ByteArray) : s.toList.isEmpty = isEmp s := by
  unfold isEmp
  rcases Nat.eq_zero_or_pos s.size with h | h
  · rw [str_em s h, decide_eq_true h]
  · rw [str_ne s h, decide_eq_false (by omega)]
set_option maxHeartbeats 4000000 in
set_option maxRecDepth 10000 in
theorem may_node (n : NodeL) (A : Option Addr) (c : Nat) (w : World) (hr : RdA w w.heap.size A n.attrs) (hc : n.attrs.length ≤ c) (hz : SzN 1000000000 n) :
    Calls Tryz.prog 68 #[encN n A c] w fun e w' => e = .returned (.bool (nodeI n)) ∧ Below w.heap.size w w' := by
  obtain ⟨⟨k0, k1⟩, z1, z2, ⟨z3, zA⟩, z4, m0, m1⟩ := hz
  have HXA : Hid (Below w.heap.size w (w.alloc (.cells #[.int .u8 n.kind, .string n.space, .string n.name, .slice A n.attrs.length c, .string n.text, .int .i64 n.many] 69))) := (Below.refl _ w).alloc (Nat.le_refl _) _
  obtain ⟨W0, hW0⟩ : ∃ W0, W0 = w.alloc (.cells #[.int .u8 n.kind, .string n.space, .string n.name, .slice A n.attrs.length c, .string n.text, .int .i64 n.many] 69) := ⟨_, rfl⟩
  have HX0 := HXA
  rw [← hW0] at HX0
  have hs0 : w.heap.size < W0.heap.size := by rw [hW0]; simp
  have HD0 : Hid (∀ W, Below W0.heap.size W0 W → W.cell? ⟨w.heap.size, 0, none⟩ = some (.int .u8 n.kind)) := Lib.hid (fun W hW => (hW.cell hs0).trans (by rw [hW0]; simp))
  have HD1 : Hid (∀ W, Below W0.heap.size W0 W → W.cell? ⟨w.heap.size, 1, none⟩ = some (.string n.space)) := Lib.hid (fun W hW => (hW.cell hs0).trans (by rw [hW0]; simp))
  have HD2 : Hid (∀ W, Below W0.heap.size W0 W → W.cell? ⟨w.heap.size, 2, none⟩ = some (.string n.name)) := Lib.hid (fun W hW => (hW.cell hs0).trans (by rw [hW0]; simp))
  have HD3 : Hid (∀ W, Below W0.heap.size W0 W → W.cell? ⟨w.heap.size, 3, none⟩ = some (.slice A n.attrs.length c)) := Lib.hid (fun W hW => (hW.cell hs0).trans (by rw [hW0]; simp))
  have HD4 : Hid (∀ W, Below W0.heap.size W0 W → W.cell? ⟨w.heap.size, 4, none⟩ = some (.string n.text)) := Lib.hid (fun W hW => (hW.cell hs0).trans (by rw [hW0]; simp))
  have HD5 : Hid (∀ W, Below W0.heap.size W0 W → W.cell? ⟨w.heap.size, 5, none⟩ = some (.int .i64 n.many)) := Lib.hid (fun W hW => (hW.cell hs0).trans (by rw [hW0]; simp))
  have HRA := Lib.hid (fun W (hW : Below w.heap.size w W) => ((hr.below hW (Nat.le_refl _)).more hW.size))
  have HT := Lib.hid (fun W => check5_any n.text W z4)
  have HS := Lib.hid (fun W => check5_any n.space W z1)
  have HF := Lib.hid (fun W => full_any n.name W z2)
  have HA0 := Lib.hid (fun W (hW : Below w.heap.size w W) => attrs_any A c n.attrs W (HRA.out W hW) hc z3 zA)
  clear hr hc z1 z2 z3 zA z4
  unfold encN
  by_cases hk : n.kind = 2
  · have hk' : (n.kind == 2) = true := by rw [beq_iff_eq]; exact hk
    have HI : Box (nodeI n = ((isEmp n.name) && (isEmp n.space) && (decide (n.attrs.length = 0)) && (decide (n.many = 0)) && (!isEmp n.text) && (decide (textErr n.text = 0)))) := ⟨by unfold nodeI; rw [if_pos hk]⟩
    generalize nodeI n = ri at *
    generalize textErr n.text = t6 at *
    obtain ⟨q1, hqq1⟩ : ∃ q, (isEmp n.name) = q := ⟨_, rfl⟩
    rw [hqq1] at HI
    obtain ⟨q2, hqq2⟩ : ∃ q, (isEmp n.space) = q := ⟨_, rfl⟩
    rw [hqq2] at HI
    obtain ⟨q3, hqq3⟩ : ∃ q, (decide (n.attrs.length = 0)) = q := ⟨_, rfl⟩
    rw [hqq3] at HI
    obtain ⟨q4, hqq4⟩ : ∃ q, (decide (n.many = 0)) = q := ⟨_, rfl⟩
    rw [hqq4] at HI
    obtain ⟨q5, hqq5⟩ : ∃ q, (!isEmp n.text) = q := ⟨_, rfl⟩
    rw [hqq5] at HI
    obtain ⟨q6, hqq6⟩ : ∃ q, (decide (t6 = 0)) = q := ⟨_, rfl⟩
    rw [hqq6] at HI
    rw [hk] at HD0 hW0 HXA
    rw [hk]
    cases q1 with
    | false =>
      have fq1 : n.name.toList.isEmpty = false := (emp_is n.name).trans hqq1
      go_enter Tryz.func68, Tryz.ntmps68
      go_wp2
      go_ret
      exact ⟨ret_bool (by rw [HI.out]; rfl), HXA.out⟩
    | true =>
      have fq1 : n.name.toList.isEmpty = true := (emp_is n.name).trans hqq1
      cases q2 with
      | false =>
        have fq2 : n.space.toList.isEmpty = false := (emp_is n.space).trans hqq2
        go_enter Tryz.func68, Tryz.ntmps68
        go_wp2
        go_ret
        exact ⟨ret_bool (by rw [HI.out]; rfl), HXA.out⟩
      | true =>
        have fq2 : n.space.toList.isEmpty = true := (emp_is n.space).trans hqq2
        cases q3 with
        | false =>
          have fq3 : ((n.attrs.length : Int) == 0) = false := by have := of_decide_eq_false hqq3; rw [beq_eq_false_iff_ne]; omega
          go_enter Tryz.func68, Tryz.ntmps68
          go_wp2
          go_ret
          exact ⟨ret_bool (by rw [HI.out]; rfl), HXA.out⟩
        | true =>
          have fq3 : (n.attrs.length : Int) = 0 := by have := of_decide_eq_true hqq3; omega
          cases q4 with
          | false =>
            have fq4 : (n.many == 0) = false := by have := of_decide_eq_false hqq4; rw [beq_eq_false_iff_ne]; omega
            go_enter Tryz.func68, Tryz.ntmps68
            go_wp2
            go_ret
            exact ⟨ret_bool (by rw [HI.out]; rfl), HXA.out⟩
          | true =>
            have fq4 : n.many = 0 := by have := of_decide_eq_true hqq4; omega
            rw [fq4] at HD5 hW0 HXA
            cases q5 with
            | false =>
              have fq5 : n.text.toList.isEmpty = true := (emp_is n.text).trans (by rw [← Bool.not_not (isEmp n.text), hqq5]; rfl)
              go_enter Tryz.func68, Tryz.ntmps68
              go_wp2
              go_ret
              exact ⟨ret_bool (by rw [HI.out]; rfl), HXA.out⟩
            | true =>
              have fq5 : n.text.toList.isEmpty = false := (emp_is n.text).trans (by rw [← Bool.not_not (isEmp n.text), hqq5]; rfl)
              cases q6 with
              | false =>
                have fq6 : (t6 == 0) = false := by rw [beq_eq_false_iff_ne]; exact of_decide_eq_false hqq6
                go_enter Tryz.func68, Tryz.ntmps68
                go_wp2_with fail
                rw [← hW0]
                refine (HT.out _).mono ?_
                rintro e w1 ⟨rfl, hb1⟩
                have X1 : Hid (Below W0.heap.size W0 w1) := Lib.hid (ext_step (Below.refl W0.heap.size W0) (by first | exact Below.refl _ _ | exact (Below.refl _ _).alloc (Nat.le_refl _) _ | exact ((Below.refl _ _).alloc (Nat.le_refl _) _).alloc (by simp) _ | exact (((Below.refl _ _).alloc (Nat.le_refl _) _).alloc (by simp) _).alloc (by simp) _ | exact (Below.refl _ _).drew | exact ((Below.refl _ _).alloc (Nat.le_refl _) _).drew) hb1 (Below.refl W0.heap.size W0).size)
                clear hb1
                try clear d0 d1 d2 d3 d4 d5
                have d0 := HD0.out _ X1.out
                have d1 := HD1.out _ X1.out
                have d2 := HD2.out _ X1.out
                have d3 := HD3.out _ X1.out
                have d4 := HD4.out _ X1.out
                have d5 := HD5.out _ X1.out
                go_wp2
                go_ret
                exact ⟨ret_bool (by rw [HI.out]; rfl), HX0.out.trans (X1.out.mono HX0.out.size)⟩
              | true =>
                have fq6 : t6 = 0 := of_decide_eq_true hqq6
                subst fq6
                go_enter Tryz.func68, Tryz.ntmps68
                go_wp2_with fail
                rw [← hW0]
                refine (HT.out _).mono ?_
                rintro e w1 ⟨rfl, hb1⟩
                have X1 : Hid (Below W0.heap.size W0 w1) := Lib.hid (ext_step (Below.refl W0.heap.size W0) (by first | exact Below.refl _ _ | exact (Below.refl _ _).alloc (Nat.le_refl _) _ | exact ((Below.refl _ _).alloc (Nat.le_refl _) _).alloc (by simp) _ | exact (((Below.refl _ _).alloc (Nat.le_refl _) _).alloc (by simp) _).alloc (by simp) _ | exact (Below.refl _ _).drew | exact ((Below.refl _ _).alloc (Nat.le_refl _) _).drew) hb1 (Below.refl W0.heap.size W0).size)
                clear hb1
                try clear d0 d1 d2 d3 d4 d5
                have d0 := HD0.out _ X1.out
                have d1 := HD1.out _ X1.out
                have d2 := HD2.out _ X1.out
                have d3 := HD3.out _ X1.out
                have d4 := HD4.out _ X1.out
                have d5 := HD5.out _ X1.out
                go_wp2
                go_ret
                exact ⟨ret_bool (by rw [HI.out]; rfl), HX0.out.trans (X1.out.mono HX0.out.size)⟩
  · have hk' : (n.kind == 2) = false := by rw [beq_eq_false_iff_ne]; exact hk
    have HI : Box (nodeI n = ((decide (n.kind = 1)) && (isEmp n.text) && (fullI n.name) && (decide (textErr n.space = 0)) && (attrsI n.attrs))) := ⟨by unfold nodeI; rw [if_neg hk]⟩
    generalize nodeI n = ri at *
    generalize fullI n.name = p2 at *
    generalize textErr n.space = t3 at *
    generalize attrsI n.attrs = p4 at *
    obtain ⟨p0, hqp0⟩ : ∃ q, (decide (n.kind = 1)) = q := ⟨_, rfl⟩
    rw [hqp0] at HI
    obtain ⟨p1, hqp1⟩ : ∃ q, (isEmp n.text) = q := ⟨_, rfl⟩
    rw [hqp1] at HI
    obtain ⟨p3, hqp3⟩ : ∃ q, (decide (t3 = 0)) = q := ⟨_, rfl⟩
    rw [hqp3] at HI
    cases p0 with
    | false =>
      have fp0 : (n.kind == 1) = false := by rw [beq_eq_false_iff_ne]; exact of_decide_eq_false hqp0
      go_enter Tryz.func68, Tryz.ntmps68
      go_wp2
      go_ret
      exact ⟨ret_bool (by rw [HI.out]; rfl), HXA.out⟩
    | true =>
      have fp0 : n.kind = 1 := of_decide_eq_true hqp0
      rw [fp0] at HD0 hW0 HXA
      rw [fp0]
      cases p1 with
      | false =>
        have fp1 : n.text.toList.isEmpty = false := (emp_is n.text).trans hqp1
        go_enter Tryz.func68, Tryz.ntmps68
        go_wp2
        go_ret
        exact ⟨ret_bool (by rw [HI.out]; rfl), HXA.out⟩
      | true =>
        have fp1 : n.text.toList.isEmpty = true := (emp_is n.text).trans hqp1
        cases p2 with
        | false =>
          go_enter Tryz.func68, Tryz.ntmps68
          go_wp2_with fail
          rw [← hW0]
          refine (HF.out _).mono ?_
          rintro e w1 ⟨rfl, hb1⟩
          have X1 : Hid (Below W0.heap.size W0 w1) := Lib.hid (ext_step (Below.refl W0.heap.size W0) (by first | exact Below.refl _ _ | exact (Below.refl _ _).alloc (Nat.le_refl _) _ | exact ((Below.refl _ _).alloc (Nat.le_refl _) _).alloc (by simp) _ | exact (((Below.refl _ _).alloc (Nat.le_refl _) _).alloc (by simp) _).alloc (by simp) _ | exact (Below.refl _ _).drew | exact ((Below.refl _ _).alloc (Nat.le_refl _) _).drew) hb1 (Below.refl W0.heap.size W0).size)
          clear hb1
          try clear d0 d1 d2 d3 d4 d5
          have d0 := HD0.out _ X1.out
          have d1 := HD1.out _ X1.out
          have d2 := HD2.out _ X1.out
          have d3 := HD3.out _ X1.out
          have d4 := HD4.out _ X1.out
          have d5 := HD5.out _ X1.out
          go_wp2
          go_ret
          exact ⟨ret_bool (by rw [HI.out]; rfl), HX0.out.trans (X1.out.mono HX0.out.size)⟩
        | true =>
          cases p3 with
          | false =>
            have fp3 : (t3 == 0) = false := by rw [beq_eq_false_iff_ne]; exact of_decide_eq_false hqp3
            go_enter Tryz.func68, Tryz.ntmps68
            go_wp2_with fail
            rw [← hW0]
            refine (HF.out _).mono ?_
            rintro e w1 ⟨rfl, hb1⟩
            have X1 : Hid (Below W0.heap.size W0 w1) := Lib.hid (ext_step (Below.refl W0.heap.size W0) (by first | exact Below.refl _ _ | exact (Below.refl _ _).alloc (Nat.le_refl _) _ | exact ((Below.refl _ _).alloc (Nat.le_refl _) _).alloc (by simp) _ | exact (((Below.refl _ _).alloc (Nat.le_refl _) _).alloc (by simp) _).alloc (by simp) _ | exact (Below.refl _ _).drew | exact ((Below.refl _ _).alloc (Nat.le_refl _) _).drew) hb1 (Below.refl W0.heap.size W0).size)
            clear hb1
            try clear d0 d1 d2 d3 d4 d5
            have d0 := HD0.out _ X1.out
            have d1 := HD1.out _ X1.out
            have d2 := HD2.out _ X1.out
            have d3 := HD3.out _ X1.out
            have d4 := HD4.out _ X1.out
            have d5 := HD5.out _ X1.out
            go_wp2_with fail
            refine (HS.out _).mono ?_
            rintro e w2 ⟨rfl, hb2⟩
            have X2 : Hid (Below W0.heap.size W0 w2) := Lib.hid (ext_step (X1.out) (by first | exact Below.refl _ _ | exact (Below.refl _ _).alloc (Nat.le_refl _) _ | exact ((Below.refl _ _).alloc (Nat.le_refl _) _).alloc (by simp) _ | exact (((Below.refl _ _).alloc (Nat.le_refl _) _).alloc (by simp) _).alloc (by simp) _ | exact (Below.refl _ _).drew | exact ((Below.refl _ _).alloc (Nat.le_refl _) _).drew) hb2 (X1.out).size)
            clear hb2
            try clear d0 d1 d2 d3 d4 d5
            have d0 := HD0.out _ X2.out
            have d1 := HD1.out _ X2.out
            have d2 := HD2.out _ X2.out
            have d3 := HD3.out _ X2.out
            have d4 := HD4.out _ X2.out
            have d5 := HD5.out _ X2.out
            go_wp2
            go_ret
            exact ⟨ret_bool (by rw [HI.out]; rfl), HX0.out.trans (X2.out.mono HX0.out.size)⟩
          | true =>
            have fp3 : t3 = 0 := of_decide_eq_true hqp3
            subst fp3
            cases p4 with
            | false =>
              go_enter Tryz.func68, Tryz.ntmps68
              go_wp2_with fail
              rw [← hW0]
              refine (HF.out _).mono ?_
              rintro e w1 ⟨rfl, hb1⟩
              have X1 : Hid (Below W0.heap.size W0 w1) := Lib.hid (ext_step (Below.refl W0.heap.size W0) (by first | exact Below.refl _ _ | exact (Below.refl _ _).alloc (Nat.le_refl _) _ | exact ((Below.refl _ _).alloc (Nat.le_refl _) _).alloc (by simp) _ | exact (((Below.refl _ _).alloc (Nat.le_refl _) _).alloc (by simp) _).alloc (by simp) _ | exact (Below.refl _ _).drew | exact ((Below.refl _ _).alloc (Nat.le_refl _) _).drew) hb1 (Below.refl W0.heap.size W0).size)
              clear hb1
              try clear d0 d1 d2 d3 d4 d5
              have d0 := HD0.out _ X1.out
              have d1 := HD1.out _ X1.out
              have d2 := HD2.out _ X1.out
              have d3 := HD3.out _ X1.out
              have d4 := HD4.out _ X1.out
              have d5 := HD5.out _ X1.out
              go_wp2_with fail
              refine (HS.out _).mono ?_
              rintro e w2 ⟨rfl, hb2⟩
              have X2 : Hid (Below W0.heap.size W0 w2) := Lib.hid (ext_step (X1.out) (by first | exact Below.refl _ _ | exact (Below.refl _ _).alloc (Nat.le_refl _) _ | exact ((Below.refl _ _).alloc (Nat.le_refl _) _).alloc (by simp) _ | exact (((Below.refl _ _).alloc (Nat.le_refl _) _).alloc (by simp) _).alloc (by simp) _ | exact (Below.refl _ _).drew | exact ((Below.refl _ _).alloc (Nat.le_refl _) _).drew) hb2 (X1.out).size)
              clear hb2
              try clear d0 d1 d2 d3 d4 d5
              have d0 := HD0.out _ X2.out
              have d1 := HD1.out _ X2.out
              have d2 := HD2.out _ X2.out
              have d3 := HD3.out _ X2.out
              have d4 := HD4.out _ X2.out
              have d5 := HD5.out _ X2.out
              go_wp2_with fail
              refine (HA0.out _ (HX0.out.trans (X2.out.mono HX0.out.size))).mono ?_
              rintro e w3 ⟨rfl, hb3⟩
              have X3 : Hid (Below W0.heap.size W0 w3) := Lib.hid (ext_step (X2.out) (by first | exact Below.refl _ _ | exact (Below.refl _ _).alloc (Nat.le_refl _) _ | exact ((Below.refl _ _).alloc (Nat.le_refl _) _).alloc (by simp) _ | exact (((Below.refl _ _).alloc (Nat.le_refl _) _).alloc (by simp) _).alloc (by simp) _ | exact (Below.refl _ _).drew | exact ((Below.refl _ _).alloc (Nat.le_refl _) _).drew) hb3 (X2.out).size)
              clear hb3
              try clear d0 d1 d2 d3 d4 d5
              have d0 := HD0.out _ X3.out
              have d1 := HD1.out _ X3.out
              have d2 := HD2.out _ X3.out
              have d3 := HD3.out _ X3.out
              have d4 := HD4.out _ X3.out
              have d5 := HD5.out _ X3.out
              go_wp2
              go_ret
              exact ⟨ret_bool (by rw [HI.out]; rfl), HX0.out.trans (X3.out.mono HX0.out.size)⟩
            | true =>
              go_enter Tryz.func68, Tryz.ntmps68
              go_wp2_with fail
              rw [← hW0]
              refine (HF.out _).mono ?_
              rintro e w1 ⟨rfl, hb1⟩
              have X1 : Hid (Below W0.heap.size W0 w1) := Lib.hid (ext_step (Below.refl W0.heap.size W0) (by first | exact Below.refl _ _ | exact (Below.refl _ _).alloc (Nat.le_refl _) _ | exact ((Below.refl _ _).alloc (Nat.le_refl _) _).alloc (by simp) _ | exact (((Below.refl _ _).alloc (Nat.le_refl _) _).alloc (by simp) _).alloc (by simp) _ | exact (Below.refl _ _).drew | exact ((Below.refl _ _).alloc (Nat.le_refl _) _).drew) hb1 (Below.refl W0.heap.size W0).size)
              clear hb1
              try clear d0 d1 d2 d3 d4 d5
              have d0 := HD0.out _ X1.out
              have d1 := HD1.out _ X1.out
              have d2 := HD2.out _ X1.out
              have d3 := HD3.out _ X1.out
              have d4 := HD4.out _ X1.out
              have d5 := HD5.out _ X1.out
              go_wp2_with fail
              refine (HS.out _).mono ?_
              rintro e w2 ⟨rfl, hb2⟩
              have X2 : Hid (Below W0.heap.size W0 w2) := Lib.hid (ext_step (X1.out) (by first | exact Below.refl _ _ | exact (Below.refl _ _).alloc (Nat.le_refl _) _ | exact ((Below.refl _ _).alloc (Nat.le_refl _) _).alloc (by simp) _ | exact (((Below.refl _ _).alloc (Nat.le_refl _) _).alloc (by simp) _).alloc (by simp) _ | exact (Below.refl _ _).drew | exact ((Below.refl _ _).alloc (Nat.le_refl _) _).drew) hb2 (X1.out).size)
              clear hb2
              try clear d0 d1 d2 d3 d4 d5
              have d0 := HD0.out _ X2.out
              have d1 := HD1.out _ X2.out
              have d2 := HD2.out _ X2.out
              have d3 := HD3.out _ X2.out
              have d4 := HD4.out _ X2.out
              have d5 := HD5.out _ X2.out
              go_wp2_with fail
              refine (HA0.out _ (HX0.out.trans (X2.out.mono HX0.out.size))).mono ?_
              rintro e w3 ⟨rfl, hb3⟩
              have X3 : Hid (Below W0.heap.size W0 w3) := Lib.hid (ext_step (X2.out) (by first | exact Below.refl _ _ | exact (Below.refl _ _).alloc (Nat.le_refl _) _ | exact ((Below.refl _ _).alloc (Nat.le_refl _) _).alloc (by simp) _ | exact (((Below.refl _ _).alloc (Nat.le_refl _) _).alloc (by simp) _).alloc (by simp) _ | exact (Below.refl _ _).drew | exact ((Below.refl _ _).alloc (Nat.le_refl _) _).drew) hb3 (X2.out).size)
              clear hb3
              try clear d0 d1 d2 d3 d4 d5
              have d0 := HD0.out _ X3.out
              have d1 := HD1.out _ X3.out
              have d2 := HD2.out _ X3.out
              have d3 := HD3.out _ X3.out
              have d4 := HD4.out _ X3.out
              have d5 := HD5.out _ X3.out
              go_wp2
              go_ret
              exact ⟨ret_bool (by rw [HI.out]; rfl), HX0.out.trans (X3.out.mono HX0.out.size)⟩
end Go.Proofs.YtnfokaecobddkaaGreatDoor
end
