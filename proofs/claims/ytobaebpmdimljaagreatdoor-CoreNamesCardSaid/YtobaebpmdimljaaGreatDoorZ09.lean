/- Part 9 of a proof laid in parts, one behind the other; no condition of its own. -/
import Derived.Test.YtobaebpmdimljaaGreatDoorZ08
import Derived.Deep.Upon
import Derived.Laws.Tables
import Derived.Laws.Slices
set_option linter.all false
section
namespace Go.Proofs.YtobaebpmdimljaaGreatDoor.Clo
open Go.RowKit
set_option linter.unusedVariables false
set_option linter.unusedSimpArgs false
noncomputable def growF (e : TypeId) (size bytes : Nat) (olds y : AV) (m : Nat) (hp : HP) (k : KV) : R :=
  hp.on fun mem nx => match last nx with
    | true => none
    | false => match Nat.ble (Nat.mul (Nat.mul 2 m) bytes) 281474976710656 with
      | false => none
      | true => match Nat.ble m 1000000000000 with
        | false => none
        | true => k (.sg nx 0 m size) (.mk (mem.set nx (.row e true (some 0) false (olds.app y))) (inc nx))
section
variable {P : Program} {G dt n : Nat} {lo : Nat → Bool} {ds : List (Option Nat)} {o : Oper}
theorem grow_ok {t tx e ty : TypeId} {i : TypeInfo} {z : Value} (ht : P.underlying t = some (.slice e)) (hi : P.info? e = some i) (hz : i.zero = some z) (hzs : z.cells.size = i.size)
    {olds y : AV} {m : Nat} {hp : HP} {k : KV} {x : AV × HP} (h : growF e i.size i.bytes olds y m hp k = some x) : ∃ v hp', k v hp' = some x ∧ ∀ {sts : List Site} φ (B : Bse sts) w (base : Option Addr) (sLen sCap nn : Nat) (xv : Value) (os news : List Value), WH φ B hp w → sLen + nn = m → sCap < m →
      (Builtin.firstCells i.size sLen (.slice base sLen sCap)).run P w.drew = .ok os.toArray w.drew → os.length = sLen * i.size → VL φ olds os → VL φ y news → Src P i.size tx xv nn news w →
      ∃ ψ v' w', (Builtin.append_ #[t, tx] ty #[.slice base sLen sCap, xv]).run P w = .ok v' w' ∧ VR ψ v v' ∧ StH φ hp w ψ hp' w' ∧ WH ψ B hp' w' := by
  cases hp with
  | mk mem nx =>
  have h' : (match last nx with
    | true => none
    | false => match Nat.ble (Nat.mul (Nat.mul 2 m) i.bytes) 281474976710656 with
      | false => none
      | true => match Nat.ble m 1000000000000 with
        | false => none
        | true => k (.sg nx 0 m i.size) (.mk (mem.set nx (.row e true (some 0) false (olds.app y))) (inc nx)) : R) = some x := h
  split at h'
  · cases h'
  rename_i hl
  split at h'
  · cases h'
  rename_i hf
  split at h'
  · cases h'
  rename_i hm
  have hf' : 2 * m * i.bytes ≤ 281474976710656 := Nat.le_of_ble_eq_true hf
  have hm' : m ≤ 1000000000000 := Nat.le_of_ble_eq_true hm
  refine ⟨_, _, h', fun φ B w base sLen sCap nn xv os news hw hmn hcap hold hol ho hy hs => ?_⟩
  subst hmn
  have hfit : Builtin.nextslicecap (sLen + nn) sCap * i.bytes ≤ 281474976710656 := Nat.le_trans (Nat.mul_le_mul_right _ (nextslicecap_le hcap)) hf'
  have hrun := run_append_grow_src (P := P) w t tx ty e i z ht hi hz base sLen sCap os hold xv nn news hs hcap (by omega) hfit
  have hgc := grownCap_ge w (sLen + nn) sCap e
  generalize grownCap w (sLen + nn) sCap e = gc at hrun hgc
  obtain ⟨hw1, hs1⟩ := WR.drew hw
  have hK : ((os ++ news).toArray ++ Builtin.zeroCells z.cells (gc - (sLen + nn))).size = gc * i.size := by
    rw [Array.size_append, size_zeroCells, hzs, List.size_toArray, List.length_append, hol, hs.newsLen, ← Nat.add_mul, ← Nat.add_mul]
    congr 1
    omega
  obtain ⟨h1, h2⟩ := WR.new hw1 hl (x := .row e true (some 0) false (olds.app y)) (o := .cells ((os ++ news).toArray ++ Builtin.zeroCells z.cells (gc - (sLen + nn))) e) (K := gc * i.size)
    ⟨_, os ++ news, (Builtin.zeroCells z.cells (gc - (sLen + nn))).toList, (0, 0), rfl, by simp, VL.app ho hy, (fun h => by cases h), hK, fun i _ _ h => h⟩ (.alloc _ _)
  exact ⟨_, _, _, hrun, ⟨(w.drew.heap.size, gc * i.size), gc, ext_same φ nx _, rfl, hgc, by simp⟩, hs1.trans h2, h1⟩
end
end Go.Proofs.YtobaebpmdimljaaGreatDoor.Clo
end
section
namespace Go.Proofs.YtobaebpmdimljaaGreatDoor.Clo
open Go.RowKit
set_option linter.unusedVariables false
set_option linter.unusedSimpArgs false
noncomputable def heirF (e : TypeId) (size bytes : Nat) (r : Id) (m : Nat) (nn : Nat) (y : AV) (hp : HP) (k : KV) : R :=
  hp.on fun mem nx => match last nx with
    | true => none
    | false => onRow mem r fun t gr fz ro cells => match ro with
      | true => none
      | false => match okF fz (Nat.mul m size) with
        | false => none
        | true => match Nat.beq t e with
          | false => none
          | true => match Nat.beq cells.len (Nat.mul m size) with
            | false => none
            | true => match Nat.ble (Nat.mul (Nat.mul 2 (Nat.add m nn)) bytes) 281474976710656 with
              | false => none
              | true => match Nat.ble (Nat.add m nn) 1000000000000 with
                | false => none
                | true => k (.sg nx 0 (Nat.add m nn) size) (.mk ((mem.del r).set nx (.row e true fz false (cells.app y))) (inc nx))
theorem setManyA_room : ∀ (vs l rest : List Value) (c : Array Value), c.toList = l ++ rest → vs.length ≤ rest.length → (setManyA vs l.length c).toList = (l ++ vs) ++ rest.drop vs.length
  | [], l, rest, c, h, _ => by simpa [setManyA] using h
  | v :: vs, l, [], c, h, hl => by simp at hl
  | v :: vs, l, a :: rest, c, h, hl => by
    have e : (c.setIfInBounds l.length v).toList = (l ++ [v]) ++ rest := by
      rw [Array.toList_setIfInBounds, h, List.set_append_right _ _ (Nat.le_refl _)]
      simp
    have := setManyA_room vs (l ++ [v]) rest _ e (by simpa using hl)
    simp only [List.length_append, List.length_cons, List.length_nil, Nat.zero_add] at this
    simpa [setManyA] using this
section
variable {P : Program}
theorem heir_ok {t tx e ty : TypeId} {i : TypeInfo} {z : Value} (ht : P.underlying t = some (.slice e)) (hi : P.info? e = some i) (hz : i.zero = some z) (hzs : z.cells.size = i.size)
    {r : Id} {y : AV} {m nn : Nat} {hp : HP} {k : KV} {x : AV × HP} (h : heirF e i.size i.bytes r m nn y hp k = some x) : ∃ v hp', k v hp' = some x ∧ ∀ {sts : List Site} φ (B : Bse sts) w (s : Value) (xv : Value) (news : List Value), WH φ B hp w → VR φ (.sg r 0 m i.size) s →
      VL φ y news → Src P i.size tx xv nn news w →
      ∃ ψ v' w', (Builtin.append_ #[t, tx] ty #[s, xv]).run P w = .ok v' w' ∧ VR ψ v v' ∧ StH φ hp w ψ hp' w' ∧ WH ψ B hp' w' := by
  cases hp with
  | mk mem nx =>
  have h' : (match last nx with
    | true => none
    | false => onRow mem r fun t gr fz ro cells => match ro with
      | true => none
      | false => match okF fz (Nat.mul m i.size) with
        | false => none
        | true => match Nat.beq t e with
          | false => none
          | true => match Nat.beq cells.len (Nat.mul m i.size) with
            | false => none
            | true => match Nat.ble (Nat.mul (Nat.mul 2 (Nat.add m nn)) i.bytes) 281474976710656 with
              | false => none
              | true => match Nat.ble (Nat.add m nn) 1000000000000 with
                | false => none
                | true => k (.sg nx 0 (Nat.add m nn) i.size) (.mk ((mem.del r).set nx (.row e true fz false (cells.app y))) (inc nx)) : R) = some x := h
  split at h'
  · cases h'
  rename_i hl
  obtain ⟨t1, gr, fz, ro, cells, hm, h2⟩ := onRow_some h'
  cases ro with
  | true => cases h2
  | false =>
  simp only at h2
  split at h2
  · cases h2
  rename_i hfz
  split at h2
  · cases h2
  rename_i hte
  split at h2
  · cases h2
  rename_i hcl
  split at h2
  · cases h2
  rename_i hb
  split at h2
  · cases h2
  rename_i hmm
  have hte' : t1 = e := Nat.eq_of_beq_eq_true hte
  have hcl' : cells.len = m * i.size := Nat.eq_of_beq_eq_true hcl
  have hb' : 2 * (m + nn) * i.bytes ≤ 281474976710656 := Nat.le_of_ble_eq_true hb
  have hm' : m + nn ≤ 1000000000000 := Nat.le_of_ble_eq_true hmm
  subst hte'
  refine ⟨_, _, h2, fun φ B w s xv news hw hs hy hsrc => ?_⟩
  obtain ⟨g, c, hg, e0, hmc, hK⟩ := hs
  subst e0
  obtain ⟨ca, l, rest, mk, e1, e2, e3, e4, e5, e6⟩ := RW.row (WR.rw hw) hm hg
  have hll : l.length = m * i.size := (VL.len e3).trans hcl'
  have hnl := hsrc.newsLen
  have hca : l.length + rest.length = g.2 := by rw [← e5, ← Array.length_toList, e2, List.length_append]
  rw [Nat.zero_add] at hK
  by_cases hroom : m + nn ≤ c
  · have hle : (m + nn) * i.size ≤ c * i.size := Nat.mul_le_mul_right _ hroom
    rw [Nat.add_mul] at hle
    have hrun := run_append_room_src (P := P) w t tx ty t1 i ht hi g.1 0 m c xv nn news hsrc hroom (fun j hj => ?_) (fun j hj => ?_)
    · obtain ⟨m1, m2, m3, m4⟩ := setCells_meta g.1 news (0 + m * i.size) w
      have hat := setCells_row g.1 t1 mk news (0 + m * i.size) w ca e1
      have hset := setManyA_room news l rest ca e2 (by omega)
      obtain ⟨h3, h4⟩ := WR.heir hw hl (y := .row t1 true fz false (cells.app y)) hm rfl hg m1 m2 m3 m4 (fun k hk => setCells_other g.1 news _ w k hk) hat
        ⟨_, l ++ news, rest.drop news.length, mk, rfl, by rw [Nat.zero_add, ← hll]; exact hset, VL.app e3 hy, (fun h => by cases h), by rw [setManyA_size]; exact e5, e6⟩
      exact ⟨_, _, _, hrun, ⟨g, c, ext_same φ nx _, rfl, hroom, by rw [Nat.zero_add]; exact hK⟩, h4, h3⟩
    · rw [cell_of_row w g.1 _ ca t1 mk e1]
      have : 0 + m * i.size + j < ca.size := by omega
      simp [this]
      try omega
    · have hlt : 0 + m * i.size + j < g.2 := by rw [← e5]; omega
      have hno := okF_not (i := 0 + m * i.size + j) hfz e6 hlt (by show m * i.size ≤ _; omega)
      unfold World.frozen?
      rw [e1]
      simp only [Bool.and_eq_false_iff, decide_eq_false_iff_not]
      by_cases h1 : mk.1 ≤ 0 + m * i.size + j
      · exact .inr fun h2 => hno ⟨h1, h2⟩
      · exact .inl h1
  · have hcap : c < m + nn := by omega
    have hfit : Builtin.nextslicecap (m + nn) c * i.bytes ≤ 281474976710656 := Nat.le_trans (Nat.mul_le_mul_right _ (nextslicecap_le hcap)) hb'
    have hcell : ∀ j v, l[j]? = some v → w.drew.cell? ((⟨g.1, 0, none⟩ : Addr).add j) = some v := fun j v hv => by
      rw [add_lit, Nat.zero_add]
      simpa using cell_row e1 e2 hv
    have hold := run_firstCells_some (P := P) w.drew i.size m ⟨g.1, 0, none⟩ m c l hll hcell
    have hrun := run_append_grow_src (P := P) w t tx ty t1 i z ht hi hz (some ⟨g.1, 0, none⟩) m c l hold xv nn news hsrc hcap (by omega) hfit
    have hgc := grownCap_ge w (m + nn) c t1
    generalize grownCap w (m + nn) c t1 = gc at hrun hgc
    obtain ⟨hw1, hs1⟩ := WR.drew hw
    obtain ⟨hw2, hs2⟩ := WR.del hw1 hm hg
    have hK2 : ((l ++ news).toArray ++ Builtin.zeroCells z.cells (gc - (m + nn))).size = gc * i.size := by
      rw [Array.size_append, size_zeroCells, hzs, List.size_toArray, List.length_append, hll, hnl, ← Nat.add_mul, ← Nat.add_mul]
      congr 1
      omega
    obtain ⟨h3, h4⟩ := WR.new hw2 hl (x := .row t1 true fz false (cells.app y)) (o := .cells ((l ++ news).toArray ++ Builtin.zeroCells z.cells (gc - (m + nn))) t1) (K := gc * i.size)
      ⟨_, l ++ news, (Builtin.zeroCells z.cells (gc - (m + nn))).toList, (0, 0), rfl, by simp, VL.app e3 hy, (fun h => by cases h), hK2, by
        cases fz with
        | none => trivial
        | some _ => exact fun i _ _ h => absurd h (Nat.not_lt_zero i)⟩ (.alloc _ _)
    exact ⟨_, _, _, hrun, ⟨(w.drew.heap.size, gc * i.size), gc, ext_same φ nx _, rfl, hgc, by simp⟩, (hs1.trans hs2).trans h4, h3⟩
end
end Go.Proofs.YtobaebpmdimljaaGreatDoor.Clo
end
section
namespace Go.Proofs.YtobaebpmdimljaaGreatDoor.Clo
open Go.RowKit
set_option linter.unusedVariables false
set_option linter.unusedSimpArgs false
noncomputable def roomF (size : Nat) (r : Id) (q m c nn : Nat) (y : AV) (hp : HP) (k : KV) : R :=
  hp.on fun mem nx => onRow mem r fun t gr fz ro cells => match ro with
    | true => none
    | false => match okF fz (Nat.add q (Nat.mul m size)) with
      | false => none
      | true => match Nat.ble (Nat.add (Nat.add q (Nat.mul m size)) (Nat.mul nn size)) cells.len with
        | false => none
        | true => k (.sl r q (Nat.add m nn) (some c)) (.mk (mem.set r (.row t gr fz false (y.setMany (Nat.add q (Nat.mul m size)) cells))) nx)
noncomputable def roomG (size : Nat) (r : Id) (q m nn : Nat) (y : AV) (hp : HP) (k : KV) (els : R) : R :=
  hp.on fun mem nx => onRow mem r fun t gr fz ro cells => match ro with
    | true => els
    | false => match okF fz (Nat.add q (Nat.mul m size)) with
      | false => els
      | true => match Nat.beq size 0 with
        | true => els
        | false => match Nat.ble (Nat.add (Nat.add q (Nat.mul m size)) (Nat.mul nn size)) cells.len with
          | false => els
          | true => k (.sg r q (Nat.add m nn) size) (.mk (mem.set r (.row t gr fz false (y.setMany (Nat.add q (Nat.mul m size)) cells))) nx)
noncomputable def appF (e : TypeId) (size bytes : Nat) (a : AV) (nn : Nat) (y : AV) (hp : HP) (k : KV) : R := match a with
  | .sn => match Nat.beq nn 0 with
    | true => k .sn hp
    | false => growF e size bytes .nil y nn hp k
  | .sl r q m (some c) => match Nat.ble (Nat.add m nn) c with
    | true => roomF size r q m c nn y hp k
    | false => srcF size (.sl r q m (some c)) hp fun _ olds => growF e size bytes olds y (Nat.add m nn) hp k
  | .sl r q m none => match Nat.beq nn 0 with
    | true => k (.sl r q m none) hp
    | false => none
  | .sg r q m z => match Nat.beq z size with
    | false => none
    | true => match Nat.beq nn 0 with
      | true => k (.sg r q m z) hp
      | false => roomG size r q m nn y hp k (match Nat.beq q 0 with
        | false => none
        | true => heirF e size bytes r m nn y hp k)
  | _ => none
section
variable {P : Program}
theorem room_ok {t tx e ty : TypeId} {i : TypeInfo} (ht : P.underlying t = some (.slice e)) (hi : P.info? e = some i)
    {r : Id} {y : AV} {q m c nn : Nat} {hp : HP} {k : KV} {x : AV × HP} (hroom : m + nn ≤ c) (h : roomF i.size r q m c nn y hp k = some x) : ∃ v hp', k v hp' = some x ∧ ∀ {sts : List Site} φ (B : Bse sts) w (s : Value) (xv : Value) (news : List Value), WH φ B hp w → VR φ (.sl r q m (some c)) s →
      VL φ y news → Src P i.size tx xv nn news w →
      ∃ ψ v' w', (Builtin.append_ #[t, tx] ty #[s, xv]).run P w = .ok v' w' ∧ VR ψ v v' ∧ StH φ hp w ψ hp' w' ∧ WH ψ B hp' w' := by
  cases hp with
  | mk mem nx =>
  obtain ⟨t1, gr, fz, ro, cells, hm, h2⟩ := onRow_some (show onRow mem r _ = some x from h)
  cases ro with
  | true => cases h2
  | false =>
  simp only at h2
  split at h2
  · cases h2
  rename_i hfz
  split at h2
  · cases h2
  rename_i hln
  have hfz' : okF fz (q + m * i.size) = true := hfz
  have hln' : q + m * i.size + nn * i.size ≤ cells.len := Nat.le_of_ble_eq_true hln
  refine ⟨_, _, h2, fun φ B w s xv news hw hs hy hsrc => ?_⟩
  obtain ⟨g, c', hg, e0, hmc, hK⟩ := hs
  have hK' := hK c rfl
  subst e0 hK'
  have hnl := hsrc.newsLen
  obtain ⟨ca, l, rest, mk, e1, e2, e3, _, e5, e6⟩ := RW.row (WR.rw hw) hm hg
  have hll : l.length = cells.len := VL.len e3
  obtain ⟨s1, s2, s3⟩ := WR.store (P := P) hw hm hg hy (o := q + m * i.size) (by omega) hfz' hsrc.one
  have hrun := run_append_room_src (P := P) w t tx ty e i ht hi g.1 q m c' xv nn news hsrc hroom (fun j hj => ?_) (fun j hj => ?_)
  · exact ⟨φ, _, _, hrun, ⟨g, c', hg, rfl, hroom, fun _ h => by cases h; rfl⟩, s3, s2⟩
  · have hv : l[q + m * i.size + j]? = some (l[q + m * i.size + j]'(by omega)) := List.getElem?_eq_getElem (by omega)
    rw [cell_row e1 e2 hv]; rfl
  · have hlt : q + m * i.size + j < g.2 := by rw [← e5, ← Array.length_toList, e2, List.length_append]; omega
    have hno := okF_not (i := q + m * i.size + j) hfz' e6 hlt (by omega)
    unfold World.frozen?
    rw [e1]
    simp only [Bool.and_eq_false_iff, decide_eq_false_iff_not]
    by_cases h1 : mk.1 ≤ q + m * i.size + j
    · exact .inr fun h2 => hno ⟨h1, h2⟩
    · exact .inl h1
theorem roomG_ok {t tx e ty : TypeId} {i : TypeInfo} (ht : P.underlying t = some (.slice e)) (hi : P.info? e = some i)
    {r : Id} {y : AV} {q m nn : Nat} {hp : HP} {k : KV} {els : R} {x : AV × HP} (h : roomG i.size r q m nn y hp k els = some x) : els = some x ∨ ∃ v hp', k v hp' = some x ∧ ∀ {sts : List Site} φ (B : Bse sts) w (s : Value) (xv : Value) (news : List Value), WH φ B hp w → VR φ (.sg r q m i.size) s →
      VL φ y news → Src P i.size tx xv nn news w →
      ∃ ψ v' w', (Builtin.append_ #[t, tx] ty #[s, xv]).run P w = .ok v' w' ∧ VR ψ v v' ∧ StH φ hp w ψ hp' w' ∧ WH ψ B hp' w' := by
  cases hp with
  | mk mem nx =>
  obtain ⟨t1, gr, fz, ro, cells, hm, h2⟩ := onRow_some (show onRow mem r _ = some x from h)
  cases ro with
  | true => exact .inl h2
  | false =>
  simp only at h2
  split at h2
  · exact .inl h2
  rename_i hfz
  split at h2
  · exact .inl h2
  rename_i hsz
  split at h2
  · exact .inl h2
  rename_i hln
  have hfz' : okF fz (q + m * i.size) = true := hfz
  have hln' : q + m * i.size + nn * i.size ≤ cells.len := Nat.le_of_ble_eq_true hln
  have hpos : 0 < i.size := Nat.pos_of_ne_zero fun e => by rw [e] at hsz; cases hsz
  refine .inr ⟨_, _, h2, fun φ B w s xv news hw hs hy hsrc => ?_⟩
  obtain ⟨g, c', hg, e0, hmc, hK⟩ := hs
  subst e0
  have hnl := hsrc.newsLen
  obtain ⟨ca, l, rest, mk, e1, e2, e3, _, e5, e6⟩ := RW.row (WR.rw hw) hm hg
  have hll : l.length = cells.len := VL.len e3
  have hlen : ca.size = l.length + rest.length := by rw [← Array.length_toList, e2, List.length_append]
  have hroom : m + nn ≤ c' := by
    have h1 : (m + nn) * i.size ≤ c' * i.size := by rw [Nat.add_mul]; omega
    exact Nat.le_of_mul_le_mul_right h1 hpos
  obtain ⟨s1, s2, s3⟩ := WR.store (P := P) hw hm hg hy (o := q + m * i.size) (by omega) hfz' hsrc.one
  have hrun := run_append_room_src (P := P) w t tx ty e i ht hi g.1 q m c' xv nn news hsrc hroom (fun j hj => ?_) (fun j hj => ?_)
  · exact ⟨φ, _, _, hrun, ⟨g, c', hg, rfl, hroom, hK⟩, s3, s2⟩
  · have hv : l[q + m * i.size + j]? = some (l[q + m * i.size + j]'(by omega)) := List.getElem?_eq_getElem (by omega)
    rw [cell_row e1 e2 hv]; rfl
  · have hlt : q + m * i.size + j < g.2 := by rw [← e5, ← Array.length_toList, e2, List.length_append]; omega
    have hno := okF_not (i := q + m * i.size + j) hfz' e6 hlt (by omega)
    unfold World.frozen?
    rw [e1]
    simp only [Bool.and_eq_false_iff, decide_eq_false_iff_not]
    by_cases h1 : mk.1 ≤ q + m * i.size + j
    · exact .inr fun h2 => hno ⟨h1, h2⟩
    · exact .inl h1
theorem app_ok {t tx e ty : TypeId} {i : TypeInfo} {z : Value} (ht : P.underlying t = some (.slice e)) (hi : P.info? e = some i) (hz : i.zero = some z) (hzs : z.cells.size = i.size)
    {a y : AV} {nn : Nat} {hp : HP} {k : KV} {x : AV × HP} (h : appF e i.size i.bytes a nn y hp k = some x) : ∃ v hp', k v hp' = some x ∧ ∀ {sts : List Site} φ (B : Bse sts) w (s : Value) (xv : Value) (news : List Value), WH φ B hp w → VR φ a s →
      VL φ y news → Src P i.size tx xv nn news w →
      ∃ ψ v' w', (Builtin.append_ #[t, tx] ty #[s, xv]).run P w = .ok v' w' ∧ VR ψ v v' ∧ StH φ hp w ψ hp' w' ∧ WH ψ B hp' w' := by
  unfold appF at h
  split at h
  · split at h
    · rename_i hn
      have hn' := Nat.eq_of_beq_eq_true hn
      subst hn'
      refine ⟨_, _, h, fun φ B w s xv news hw hs hy hsrc => ?_⟩
      have hs' : s = .slice none 0 0 := hs
      subst hs'
      have hnil : news = [] := List.length_eq_zero_iff.1 (by have := hsrc.newsLen; omega)
      subst hnil
      exact ⟨φ, _, _, run_append_nothing w t tx ty e i ht hi none 0 0 (Nat.le_refl _) xv hsrc, rfl, Step.refl, hw⟩
    · rename_i hn
      obtain ⟨v, hp', h1, h2⟩ := grow_ok (P := P) (tx := tx) (ty := ty) ht hi hz hzs h
      refine ⟨v, hp', h1, fun φ B w s xv news hw hs hy hsrc => ?_⟩
      have hs' : s = .slice none 0 0 := hs
      subst hs'
      have hn' : nn ≠ 0 := fun e => by subst e; exact absurd hn (by decide)
      exact h2 φ B w none 0 0 nn xv [] news hw (by omega) (by omega) (run_firstCells_none w.drew i.size 0 0 0) (by simp) rfl hy hsrc
  · rename_i r q m c
    split at h
    · rename_i hr
      exact room_ok ht hi (Nat.le_of_ble_eq_true hr) h
    · rename_i hr
      obtain ⟨m', olds, h1, h2⟩ := srcF_some (P := P) (tx := t) h
      obtain ⟨v, hp', h3, h4⟩ := grow_ok (P := P) (tx := tx) (ty := ty) ht hi hz hzs h1
      refine ⟨v, hp', h3, fun φ B w s xv news hw hs hy hsrc => ?_⟩
      obtain ⟨os, o1, o2⟩ := h2 φ B w s hw hs (.inl ⟨e, ht⟩)
      obtain ⟨g, c', hg, e0, hmc, hK⟩ := hs
      have hK' := hK c rfl
      subst e0 hK'
      have hmm : m' = m := by
        have e1 := o1.len w
        have e2 : (Builtin.lenOf (.slice (some ⟨g.1, q, none⟩) m c')).run P w = .ok m w := rfl
        rw [e2] at e1
        injection e1 with e1
        exact e1.symm
      subst hmm
      have hcap : c' < m' + nn := Nat.lt_of_not_le fun hle => by
        have := Nat.ble_eq_true_of_le hle
        exact absurd (hr.symm.trans this) (by decide)
      exact h4 φ B w _ m' c' nn xv os news hw rfl hcap o1.cellsD o1.newsLen o2 hy hsrc
  · rename_i r q m
    split at h
    · rename_i hn
      have hn' := Nat.eq_of_beq_eq_true hn
      subst hn'
      refine ⟨_, _, h, fun φ B w s xv news hw hs hy hsrc => ?_⟩
      have hnil : news = [] := List.length_eq_zero_iff.1 (by have := hsrc.newsLen; omega)
      subst hnil
      have hs' := hs
      obtain ⟨g, c', hg, e0, hmc, hK⟩ := hs
      subst e0
      exact ⟨φ, _, _, run_append_nothing w t tx ty e i ht hi _ m c' hmc xv hsrc, hs', Step.refl, hw⟩
    · cases h
  · rename_i r q m zz
    split at h
    · cases h
    rename_i hzz
    have hzz' := Nat.eq_of_beq_eq_true hzz
    subst hzz'
    have els : (match Nat.beq q 0 with
        | false => none
        | true => heirF e i.size i.bytes r m nn y hp k) = some x → ∃ v hp', k v hp' = some x ∧ ∀ {sts : List Site} φ (B : Bse sts) w (s : Value) (xv : Value) (news : List Value), WH φ B hp w → VR φ (.sg r q m i.size) s →
        VL φ y news → Src P i.size tx xv nn news w →
        ∃ ψ v' w', (Builtin.append_ #[t, tx] ty #[s, xv]).run P w = .ok v' w' ∧ VR ψ v v' ∧ StH φ hp w ψ hp' w' ∧ WH ψ B hp' w' := by
      intro h9
      split at h9
      · cases h9
      rename_i hq
      have hq' := Nat.eq_of_beq_eq_true hq
      subst hq'
      exact heir_ok ht hi hz hzs h9
    split at h
    · rename_i hn
      have hn' := Nat.eq_of_beq_eq_true hn
      subst hn'
      refine ⟨_, _, h, fun φ B w s xv news hw hs hy hsrc => ?_⟩
      have hnil : news = [] := List.length_eq_zero_iff.1 (by have := hsrc.newsLen; omega)
      subst hnil
      have hs' := hs
      obtain ⟨g, c', hg, e0, hmc, hK⟩ := hs
      subst e0
      exact ⟨φ, _, _, run_append_nothing w t tx ty e i ht hi _ m c' hmc xv hsrc, hs', Step.refl, hw⟩
    · rcases roomG_ok (tx := tx) (ty := ty) ht hi h with h1 | h1
      · exact els h1
      · exact h1
  · cases h
end
section
variable {P : Program} {G dt n : Nat} {ds : List (Option Nat)} {o : Oper}
theorem append_ok {s x : Operand} {t tx e : TypeId} {i : TypeInfo} {z : Value} (ho : o.op = .call { callee := .builtin .append, args := #[s, x], argTypes := #[t, tx] })
    (ht : P.underlying t = some (.slice e)) (hi : P.info? e = some i) (hz : i.zero = some z) (hzs : z.cells.size = i.size) (hk : (∃ e', P.underlying tx = some (.slice e')) ∨ P.underlying tx = some .string) :
    ValOk P G dt n ds o (fun E t0 hp k => srcF i.size ((opd G dt n ds x).run E t0) hp fun nn y => appF e i.size i.bytes ((opd G dt n ds s).run E t0) nn y hp k) := by
  intro E t0 hp k r hr
  obtain ⟨nn, y, h1, h2⟩ := srcF_some (P := P) (tx := tx) hr
  obtain ⟨v, hp', h3, h4⟩ := app_ok (P := P) (tx := tx) (ty := o.type) ht hi hz hzs h1
  refine ⟨v, hp', h3, fun φ B a w g1 g2 hw => ?_⟩
  have hx := g2 x (by rw [ho]; simp [Op.operands, Call.operands])
  have hs := g2 s (by rw [ho]; simp [Op.operands, Call.operands])
  obtain ⟨news, n1, n2⟩ := h2 φ B w (a.eval x) hw hx hk
  obtain ⟨ψ, v', w', e1, e2, e3, e4⟩ := h4 φ B w (a.eval s) (a.eval x) news hw hs n2 n1
  refine ⟨ψ, v', w', .inl ?_, e2, e3, e4⟩
  unfold execOp
  simp only [ho, resolve, invoke, builtin, Sem.run_bind, Sem.run_pure, Result.andThen_ok, List.map_toArray, List.map_cons, List.map_nil, e1]
end
end Go.Proofs.YtobaebpmdimljaaGreatDoor.Clo
end
section
namespace Go.Proofs.YtobaebpmdimljaaGreatDoor.Clo
open Go.RowKit
set_option linter.unusedVariables false
set_option linter.unusedSimpArgs false
noncomputable def anySl (a : AV) (k : Id → Nat → Nat → R) : R := match a with
  | .sl r q m _ => k r q m
  | .sg r q m _ => k r q m
  | _ => none
theorem anySl_some {a : AV} {k : Id → Nat → Nat → R} {x : AV × HP} (h : anySl a k = some x) : ∃ r q m, k r q m = some x ∧ ∀ φ v, VR φ a v → ∃ (g : Plc) (c : Nat), φ r = some g ∧ v = .slice (some ⟨g.1, q, none⟩) m c ∧ m ≤ c := by
  unfold anySl at h
  split at h
  · rename_i r q m c
    exact ⟨r, q, m, h, fun φ v ⟨g, c', h1, e, h2, _⟩ => ⟨g, c', h1, e, h2⟩⟩
  · rename_i r q m c
    exact ⟨r, q, m, h, fun φ v ⟨g, c', h1, e, h2, _⟩ => ⟨g, c', h1, e, h2⟩⟩
  · cases h
section
variable {P : Program} {G dt n : Nat} {ds : List (Option Nat)} {o : Oper}
theorem indexAddrG_ok {t el : TypeId} {x y : Operand} {i : TypeInfo} (ho : o.op = .indexAddr t x y) (hu : P.underlying t = some (.slice el)) (hi : P.info? el = some i) :
    PureOk P G dt n ds o (fun e t0 hp k => anySl ((opd G dt n ds x).run e t0) fun r q m => ((opd G dt n ds y).run e t0).on_i fun _ j => onNat j fun j => match Nat.blt j m with
      | true => k (.p r (Nat.add q (Nat.mul j i.size))) hp
      | false => none) :=
  .pure fun e t0 hp k r hr => by
    obtain ⟨b, q, m, h1, hb⟩ := anySl_some hr
    obtain ⟨kd, j, hj, h2⟩ := AV.on_i_some h1
    obtain ⟨j, rfl, h3⟩ := onNat_some h2
    split at h3
    · rename_i hlt
      have hlt' : j < m := by simpa [Nat.blt_eq] using hlt
      refine ⟨_, h3, fun φ a w hx => ?_⟩
      obtain ⟨g, c', hg, e1, _⟩ := hb φ _ ((hx x (by rw [ho]; simp [Op.operands, Call.operands])))
      have e2 : a.eval y = .int kd (j : Int) := by have := (hx y (by rw [ho]; simp [Op.operands, Call.operands])); rw [hj] at this; exact this
      refine ⟨.pointer (some ⟨g.1, q + j * i.size, none⟩), ?_, g, hg, rfl⟩
      unfold execOp
      rw [ho]
      simp only [Instr.indexAt, e1, e2, asIntOf, Sem.run_bind, Sem.run_pure, Result.andThen_ok, run_underlying hu]
      rw [if_pos ⟨Int.natCast_nonneg j, by omega⟩]
      simp [sizeOf, typeInfo, program, Sem.run, hi, add_lit]
    · cases h3
theorem indexAddrA_ok {t el : TypeId} {len : Nat} {x y : Operand} {i : TypeInfo} (ho : o.op = .indexAddr t x y) (hu : P.underlying t = some (.array len el)) (hi : P.info? el = some i) :
    PureOk P G dt n ds o (fun e t0 hp k => ((opd G dt n ds x).run e t0).on_p fun r q => ((opd G dt n ds y).run e t0).on_i fun _ j => onNat j fun j => match Nat.blt j len with
      | true => k (.p r (Nat.add q (Nat.mul j i.size))) hp
      | false => none) :=
  .pure fun e t0 hp k r hr => by
    obtain ⟨b, q, hb, h1⟩ := AV.on_p_some hr
    obtain ⟨kd, j, hj, h2⟩ := AV.on_i_some h1
    obtain ⟨j, rfl, h3⟩ := onNat_some h2
    split at h3
    · rename_i hlt
      have hlt' : j < len := by simpa [Nat.blt_eq] using hlt
      refine ⟨_, h3, fun φ a w hx => ?_⟩
      obtain ⟨g, hg, e1⟩ : ∃ g, φ b = some g ∧ a.eval x = .pointer (some ⟨g.1, q, none⟩) := by have := (hx x (by rw [ho]; simp [Op.operands, Call.operands])); rw [hb] at this; exact this
      have e2 : a.eval y = .int kd (j : Int) := by have := (hx y (by rw [ho]; simp [Op.operands, Call.operands])); rw [hj] at this; exact this
      refine ⟨.pointer (some ⟨g.1, q + j * i.size, none⟩), ?_, g, hg, rfl⟩
      unfold execOp
      rw [ho]
      simp only [Instr.indexAt, Instr.sureAddr, e1, e2, asIntOf, Sem.run_bind, Sem.run_pure, Result.andThen_ok, run_underlying hu]
      rw [if_pos ⟨Int.natCast_nonneg j, by omega⟩]
      simp [sizeOf, typeInfo, program, Sem.run, hi, add_lit]
    · cases h3
end
end Go.Proofs.YtobaebpmdimljaaGreatDoor.Clo
end
section
namespace Go.Proofs.YtobaebpmdimljaaGreatDoor.Clo
open Go.RowKit
set_option linter.unusedVariables false
set_option linter.unusedSimpArgs false
theorem foldl_setMany (off : Nat) : ∀ (l : List Value) (m : Nat) (cells : Array Value), (l.zipIdx m).foldl (fun cs (p : Value × Nat) => cs.setIfInBounds (off + p.2) p.1) cells = setManyA l (off + m) cells
  | [], _, _ => rfl
  | v :: r, m, cells => by
    rw [List.zipIdx_cons, List.foldl_cons]
    exact foldl_setMany off r (m + 1) _
noncomputable def fillR (L : List (Nat × Nat × GV)) (e : Env) (t : Tr) : AV → (AV → R) → R :=
  List.rec (motive := fun _ => AV → (AV → R) → R) (fun cells k => k cells) (fun p _ ih cells k => Option.rec (motive := fun _ => R) none (fun c => match Nat.beq c.len p.2.1 with
    | false => none
    | true => match Nat.ble (Nat.add p.1 p.2.1) cells.len with
      | false => none
      | true => ih (c.setMany p.1 cells) k) (p.2.2.run e t).cellsO) L
section
variable {P : Program} {G dt n : Nat} {ds : List (Option Nat)} {o : Oper}
noncomputable def plan (G dt n : Nat) (ds : List (Option Nat)) (place : Nat → Option (Nat × Nat)) : List (Nat × Operand) → Option (List (Nat × Nat × GV))
  | [] => some []
  | (i, x) :: r => match place i with
    | none => none
    | some (of, sz) => match plan G dt n ds place r with
      | none => none
      | some l => some ((of, sz, opd G dt n ds x) :: l)
theorem fillR_some {place : Nat → Option (Nat × Nat)} : ∀ {ps : List (Nat × Operand)} {L : List (Nat × Nat × GV)}, plan G dt n ds place ps = some L → ∀ {e : Env} {t : Tr} {cells : AV} {k : AV → R} {x : AV × HP}, fillR L e t cells k = some x →
    ∃ cells', k cells' = some x ∧ ∀ φ (ev : Operand → Value) (ca : Array Value), (∀ p ∈ ps, VR φ ((opd G dt n ds p.2).run e t) (ev p.2)) → VL φ cells ca.toList → ∃ ca', Instr.fill place ca (ps.map fun p => (p.1, ev p.2)) = some ca' ∧ VL φ cells' ca'.toList ∧ ca'.size = ca.size
  | [], L, hL, e, t, cells, k, x, h => by
    cases hL
    exact ⟨cells, h, fun φ ev ca _ hc => ⟨ca, rfl, hc, rfl⟩⟩
  | (i, y) :: r, L, hL, e, t, cells, k, x, h => by
    unfold plan at hL
    split at hL
    · cases hL
    rename_i of sz hp
    split at hL
    · cases hL
    rename_i l hl
    cases hL
    have h' : (Option.rec (motive := fun _ => R) none (fun c => match Nat.beq c.len sz with
      | false => none
      | true => match Nat.ble (Nat.add of sz) cells.len with
        | false => none
        | true => fillR l e t (c.setMany of cells) k) ((opd G dt n ds y).run e t).cellsO : R) = some x := h
    cases hc : ((opd G dt n ds y).run e t).cellsO with
    | none => rw [hc] at h'; cases h'
    | some c =>
    rw [hc] at h'
    simp only at h'
    split at h'
    · cases h'
    rename_i hsz
    split at h'
    · cases h'
    rename_i hle
    have hsz' : c.len = sz := Nat.eq_of_beq_eq_true hsz
    have hle' : of + sz ≤ cells.len := Nat.le_of_ble_eq_true hle
    obtain ⟨cells', h1, h2⟩ := fillR_some hl h'
    refine ⟨cells', h1, fun φ ev ca hx hca => ?_⟩
    obtain ⟨hv, _⟩ := AV.cellsO_ok hc (show VR φ _ (ev y) from hx (i, y) (by simp))
    have hlv : (ev y).cells.toList.length = sz := (VL.len hv).trans hsz'
    have hlv' : (ev y).cells.size = sz := by rw [← Array.length_toList]; exact hlv
    have hlc : ca.toList.length = cells.len := VL.len hca
    obtain ⟨l', e1, e2⟩ := VL.setMany hv hca (rest := []) (c := ca) (List.append_nil _).symm (o := of) (by omega)
    rw [List.append_nil] at e1
    obtain ⟨ca', f1, f2, f3⟩ := h2 φ ev (setManyA (ev y).cells.toList of ca) (fun p hp => hx p (by simp [hp])) (by rw [e1]; exact e2)
    refine ⟨ca', ?_, f2, by rw [f3, setManyA_size]⟩
    have hfold : (ev y).cells.zipIdx.foldl (fun cs (p : Value × Nat) => cs.setIfInBounds (of + p.2) p.1) ca = setManyA (ev y).cells.toList of ca := by
      rw [← Array.foldl_toList, Array.toList_zipIdx]
      exact foldl_setMany of _ 0 ca
    have hca' : ca.size = cells.len := by rw [← Array.length_toList]; exact hlc
    rw [List.map_cons, Instr.fill]
    simp only [hp]
    rw [if_neg (by simp [hlv', hca']; omega)]
    exact (congrArg (fun q => Instr.fill place q (r.map fun p => (p.1, ev p.2))) hfold).trans f1
theorem parts_of {φ : Id → Option Plc} {e : Env} {t : Tr} {ev : Operand → Value} {op : Op} {ps : Array (Nat × Operand)} (hop : op.operands = (ps.toList.map (·.2)).toArray) (hx : OpsR G dt n ds φ e t ev op) : ∀ p ∈ ps.toList, VR φ ((opd G dt n ds p.2).run e t) (ev p.2) := fun p hp => hx p.2 (by
  rw [hop]
  simp only [List.mem_toArray]
  exact List.mem_map_of_mem hp)
theorem buildS_ok {t : TypeId} {parts : Array (Nat × Operand)} {fields : Array Field} {it : TypeInfo} {z : Value} {zc : AV} {places : List (Nat × Nat)} {L : List (Nat × Nat × GV)} (ho : o.op = .build t parts)
    (hu : P.underlying t = some (.struct fields)) (hit : P.info? t = some it) (hz : it.zero = some z) (hzc : (ofConst z).cellsO = some zc) (hpl : fields.toList.mapM (fun f => (P.info? f.type).map fun i => (f.offset, i.size)) = some places)
    (hL : plan G dt n ds (fun x => places[x]?) parts.toList = some L) :
    PureOk P G dt n ds o (fun e t0 hp k => fillR L e t0 zc fun c => k (.ag c) hp) :=
  .pure fun e t0 hp k r hr => by
    obtain ⟨cells', h1, h2⟩ := fillR_some hL hr
    refine ⟨_, h1, fun φ a w hx => ?_⟩
    obtain ⟨h3, _⟩ := AV.cellsO_ok hzc (ofConst_ok φ z)
    obtain ⟨ca', f1, f2, _⟩ := h2 φ a.eval z.cells (parts_of (by rw [ho]; rfl) hx) h3
    refine ⟨.agg ca', ?_, ca', rfl, f2⟩
    have hb : P.built t (parts.map fun (i, x) => (i, a.eval x)).toList = some ca' := by
      unfold Program.built
      simp only [hit, hu, hz, hpl]
      rw [Array.toList_map]
      simpa using f1
    unfold execOp
    simp only [ho, Sem.run_bind, run_build w t _ ca' hb, Result.andThen_ok]
    rfl
end
end Go.Proofs.YtobaebpmdimljaaGreatDoor.Clo
end
section
namespace Go.Proofs.YtobaebpmdimljaaGreatDoor.Clo
open Go.RowKit
set_option linter.unusedVariables false
set_option linter.unusedSimpArgs false
section
variable {P : Program} {G dt n : Nat} {ds : List (Option Nat)} {o : Oper}
theorem buildA_ok {t el : TypeId} {len : Nat} {parts : Array (Nat × Operand)} {it i : TypeInfo} {z : Value} {zc : AV} {L : List (Nat × Nat × GV)} (ho : o.op = .build t parts)
    (hu : P.underlying t = some (.array len el)) (hit : P.info? t = some it) (hz : it.zero = some z) (hzc : (ofConst z).cellsO = some zc) (hi : P.info? el = some i)
    (hL : plan G dt n ds (fun x => some (x * i.size, i.size)) parts.toList = some L) :
    PureOk P G dt n ds o (fun e t0 hp k => fillR L e t0 zc fun c => k (.ag c) hp) :=
  .pure fun e t0 hp k r hr => by
    obtain ⟨cells', h1, h2⟩ := fillR_some hL hr
    refine ⟨_, h1, fun φ a w hx => ?_⟩
    obtain ⟨h3, _⟩ := AV.cellsO_ok hzc (ofConst_ok φ z)
    obtain ⟨ca', f1, f2, _⟩ := h2 φ a.eval z.cells (parts_of (by rw [ho]; rfl) hx) h3
    refine ⟨.agg ca', ?_, ca', rfl, f2⟩
    have hb : P.built t (parts.map fun (i, x) => (i, a.eval x)).toList = some ca' := by
      unfold Program.built
      simp only [hit, hu, hz, hi]
      rw [Array.toList_map]
      simpa using f1
    unfold execOp
    simp only [ho, Sem.run_bind, run_build w t _ ca' hb, Result.andThen_ok]
    rfl
end
end Go.Proofs.YtobaebpmdimljaaGreatDoor.Clo
end
section
namespace Go.Proofs.YtobaebpmdimljaaGreatDoor.Clo
open Go.RowKit
set_option linter.unusedVariables false
set_option linter.unusedSimpArgs false
noncomputable def dropN (n : Nat) : List Nat → List Nat :=
  Nat.rec (motive := fun _ => List Nat → List Nat) (fun l => l) (fun _ ih l => List.rec (motive := fun _ => List Nat) [] (fun _ r _ => ih r) l) n
theorem dropN_eq : ∀ (n : Nat) (l : List Nat), dropN n l = l.drop n
  | 0, l => rfl
  | n + 1, [] => rfl
  | n + 1, x :: l => dropN_eq n l
noncomputable def takeK (n : Nat) : List Nat → (List Nat → R) → R :=
  Nat.rec (motive := fun _ => List Nat → (List Nat → R) → R) (fun _ k => k []) (fun _ ih l k => List.rec (motive := fun _ => R) (k []) (fun x r _ => ih r fun y => k (x :: y)) l) n
theorem takeK_eq : ∀ (n : Nat) (l : List Nat) (k : List Nat → R), takeK n l k = k (l.take n)
  | 0, l, k => rfl
  | n + 1, [], k => rfl
  | n + 1, x :: l, k => takeK_eq n l fun y => k (x :: y)
def BV (b : Option Value) (d j : Nat) : Prop := (b = none ∧ j = d) ∨ ∃ kd, b = some (.int kd (j : Int))
theorem bounds_run {P : Program} {w : World} (isSlice : Bool) {len cap l h : Nat} {low high : Option Value} (hl : BV low 0 l) (hh : BV high len h) (h1 : h ≤ cap) (h2 : l ≤ h) :
    (Instr.sliceBounds isSlice len cap low high none).run P w = .ok (l, h, cap) w := by
  have e1 : ∀ kd code, (Instr.sliceBound (.int kd (h : Int)) cap code).run P w = .ok h w := fun kd code => by
    rw [run_sliceBound w kd h cap code (by omega) (by omega)]; simp
  have e2 : ∀ kd code, (Instr.sliceBound (.int kd (l : Int)) h code).run P w = .ok l w := fun kd code => by
    rw [run_sliceBound w kd l h code (by omega) (by omega)]; simp
  rcases hl with ⟨rfl, rfl⟩ | ⟨kl, rfl⟩ <;> rcases hh with ⟨rfl, rfl⟩ | ⟨kh, rfl⟩ <;> simp [Instr.sliceBounds, e1, e2]
noncomputable def boundR (g : Option GV) (d : Nat) (e : Env) (t : Tr) (k : Nat → R) : R := match g with
  | none => k d
  | some g => (g.run e t).on_i fun _ j => onNat j k
section
variable {P : Program} {G dt n : Nat} {ds : List (Option Nat)} {o : Oper}
theorem boundR_some {b : Option Operand} {d : Nat} {e : Env} {t : Tr} {k : Nat → R} {x : AV × HP} (h : boundR (b.map (opd G dt n ds)) d e t k = some x) : ∃ j, k j = some x ∧ ∀ φ (ev : Operand → Value), (∀ y, b = some y → VR φ ((opd G dt n ds y).run e t) (ev y)) → BV (b.map ev) d j := by
  cases b with
  | none => exact ⟨d, h, fun φ ev _ => .inl ⟨rfl, rfl⟩⟩
  | some y =>
    obtain ⟨kd, j, hj, h1⟩ := AV.on_i_some (show ((opd G dt n ds y).run e t).on_i (fun _ j => onNat j k) = some x from h)
    obtain ⟨j, rfl, h2⟩ := onNat_some h1
    exact ⟨j, h2, fun φ ev hx => .inr ⟨kd, by have := hx y rfl; rw [hj] at this; exact congrArg some this⟩⟩
theorem sliceS_ok {t : TypeId} {x : Operand} {low high : Option Operand} (ho : o.op = .slice t x low high none) (hu : P.underlying t = some .string) :
    PureOk P G dt n ds o (fun e t0 hp k => ((opd G dt n ds x).run e t0).on_s fun l => boundR (high.map (opd G dt n ds)) (lenL l) e t0 fun h => boundR (low.map (opd G dt n ds)) 0 e t0 fun b =>
      match Nat.ble h (lenL l) with
      | false => none
      | true => match Nat.ble b h with
        | false => none
        | true => takeK (Nat.sub h b) (dropN b l) fun y => k (.s y) hp) :=
  .pure fun e t0 hp k r hr => by
    obtain ⟨l, hl, h1⟩ := AV.on_s_some hr
    obtain ⟨h, h2, hh⟩ := boundR_some h1
    obtain ⟨b, h3, hb⟩ := boundR_some h2
    split at h3
    · cases h3
    rename_i c1
    split at h3
    · cases h3
    rename_i c2
    rw [takeK_eq, dropN_eq] at h3
    refine ⟨_, h3, fun φ a w hx => ?_⟩
    obtain ⟨e1, b1⟩ : a.eval x = .string (bytesOf l) ∧ ∀ x ∈ l, x < 256 := by have := hx x (by rw [ho]; simp [Op.operands, Call.operands]); rw [hl] at this; exact this
    have hz : (bytesOf l).size = lenL l := by rw [bytes_size, lenL_eq]
    have c1' : h ≤ lenL l := Nat.le_of_ble_eq_true c1
    have c2' : b ≤ h := Nat.le_of_ble_eq_true c2
    have hrun := bounds_run (P := P) (w := w) false (hb φ a.eval (fun y h => hx y (by rw [ho, h]; simp [Op.operands, Call.operands]))) (hh φ a.eval (fun y h => hx y (by rw [ho, h]; simp [Op.operands, Call.operands]))) c1' c2'
    refine ⟨.string ((bytesOf l).extract b h), ?_, ?_⟩
    · unfold execOp
      rw [ho]
      simp only [Instr.sliceAt, Instr.slice, e1, Sem.run_bind, run_underlying hu, Result.andThen_ok]
      rw [hz]
      simp [Instr.slice, run_underlying hu, hz, hrun]
    · rw [bytes_extract]
      exact ⟨rfl, fun y hy => b1 y (List.mem_of_mem_drop (List.mem_of_mem_take hy))⟩
end
end Go.Proofs.YtobaebpmdimljaaGreatDoor.Clo
end
section
namespace Go.Proofs.YtobaebpmdimljaaGreatDoor.Clo
open Go.RowKit
set_option linter.unusedVariables false
set_option linter.unusedSimpArgs false
noncomputable def partF (size : Nat) (a : AV) (b h : Nat) (k : AV → R) : R := match a with
  | .sn => match Nat.ble h 0 with
    | true => k .sn
    | false => none
  | .sl r q m (some c) => match Nat.ble h c with
    | false => none
    | true => match Nat.beq c b with
      | true => k (.sl r q (Nat.sub h b) (some (Nat.sub c b)))
      | false => k (.sl r (Nat.add q (Nat.mul b size)) (Nat.sub h b) (some (Nat.sub c b)))
  | .sl r q m none => match Nat.ble h m with
    | false => none
    | true => match Nat.blt b m with
      | true => k (.sl r (Nat.add q (Nat.mul b size)) (Nat.sub h b) none)
      | false => match Nat.beq b 0 with
        | true => k (.sl r q h none)
        | false => k (.se r)
  | .sg r q m z => match Nat.beq z size with
    | false => none
    | true => match Nat.ble h m with
      | false => none
      | true => match Nat.blt b m with
        | true => k (.sg r (Nat.add q (Nat.mul b size)) (Nat.sub h b) z)
        | false => match Nat.beq b 0 with
          | true => k (.sg r q h z)
          | false => k (.se r)
  | .se r => match Nat.ble h 0 with
    | false => none
    | true => k (.se r)
  | _ => none
theorem part_end {φ : Id → Option Plc} {r : Id} {g : Plc} (e1 : φ r = some g) (q c b d : Nat) : VR φ (.se r) (.slice (if c = b then (some ⟨g.1, q, none⟩ : Option Addr) else (some (⟨g.1, q, none⟩ : Addr)).map (·.add d)) 0 (c - b)) := by
  split
  · exact ⟨g, q, _, e1, rfl⟩
  · exact ⟨g, q + d, c - b, e1, by simp only [Option.map_some, add_lit]⟩
theorem partF_some {size : Nat} {a : AV} {b h : Nat} {k : AV → R} {x : AV × HP} (hb : b ≤ h) (hh : partF size a b h k = some x) :
    ∃ v, k v = some x ∧ ∀ φ s, VR φ a s → ∃ (ad : Option Addr) (len cap : Nat), s = .slice ad len cap ∧ h ≤ cap ∧ VR φ v (.slice (if cap = b then ad else ad.map (·.add (b * size))) (h - b) (cap - b)) := by
  unfold partF at hh
  split at hh
  · split at hh
    · rename_i h0
      have h0' : h ≤ 0 := Nat.le_of_ble_eq_true h0
      refine ⟨_, hh, fun φ s hs => ⟨none, 0, 0, hs, h0', ?_⟩⟩
      have : h = 0 := by omega
      have : b = 0 := by omega
      subst_vars
      rfl
    · cases hh
  · rename_i r q m c
    split at hh
    · cases hh
    rename_i h0
    have h0' : h ≤ c := Nat.le_of_ble_eq_true h0
    split at hh
    · rename_i h1
      have h1' : c = b := Nat.eq_of_beq_eq_true h1
      refine ⟨_, hh, fun φ s ⟨g, c', e1, e2, e3, e4⟩ => ⟨_, _, _, e2, by rw [e4 c rfl]; exact h0', ?_⟩⟩
      have := e4 c rfl
      subst this
      rw [if_pos h1']
      exact ⟨g, _, e1, rfl, Nat.sub_le_sub_right h0' _, fun _ h => by cases h; rfl⟩
    · rename_i h1
      refine ⟨_, hh, fun φ s ⟨g, c', e1, e2, e3, e4⟩ => ⟨_, _, _, e2, by rw [e4 c rfl]; exact h0', ?_⟩⟩
      have := e4 c rfl
      subst this
      have h1' : ¬ (c' = b) := fun e => by subst e; rw [Nat.beq_refl] at h1; cases h1
      rw [if_neg h1']
      exact ⟨g, _, e1, by simp only [Option.map_some, add_lit]; rfl, Nat.sub_le_sub_right h0' _, fun _ h => by cases h; rfl⟩
  · rename_i r q m
    split at hh
    · cases hh
    rename_i h0
    have h0' : h ≤ m := Nat.le_of_ble_eq_true h0
    split at hh
    · rename_i h1
      have h1' : b < m := by simpa [Nat.blt_eq] using h1
      refine ⟨_, hh, fun φ s ⟨g, c', e1, e2, e3, e4⟩ => ⟨_, _, _, e2, by omega, ?_⟩⟩
      rw [if_neg (by omega)]
      exact ⟨g, _, e1, by simp only [Option.map_some, add_lit]; rfl, Nat.sub_le_sub_right (by omega) _, fun _ h => by cases h⟩
    · split at hh
      · rename_i h1
        have h1' : b = 0 := Nat.eq_of_beq_eq_true h1
        subst h1'
        refine ⟨_, hh, fun φ s ⟨g, c', e1, e2, e3, e4⟩ => ⟨_, _, _, e2, by omega, ?_⟩⟩
        exact ⟨g, c', e1, by simp [add_lit], by omega, fun _ h => by cases h⟩
      · rename_i hq x0 hq0
        have h1' : ¬ b < m := fun e => by
          have e' : Nat.blt b m = true := by simpa [Nat.blt_eq] using e
          rw [e'] at hq
          cases hq
        have hz : h - b = 0 := by omega
        refine ⟨_, hh, fun φ s ⟨g, c', e1, e2, e3, e4⟩ => ⟨_, _, _, e2, by omega, ?_⟩⟩
        rw [hz]
        exact part_end e1 _ _ _ _
  · rename_i r q m z
    split at hh
    · cases hh
    rename_i hz
    have hz' : z = size := Nat.eq_of_beq_eq_true hz
    subst hz'
    split at hh
    · cases hh
    rename_i h0
    have h0' : h ≤ m := Nat.le_of_ble_eq_true h0
    split at hh
    · rename_i h1
      have h1' : b < m := by simpa [Nat.blt_eq] using h1
      refine ⟨_, hh, fun φ s ⟨g, c', e1, e2, e3, e4⟩ => ⟨_, _, _, e2, by omega, ?_⟩⟩
      rw [if_neg (by omega)]
      refine ⟨g, _, e1, by simp only [Option.map_some, add_lit]; rfl, Nat.sub_le_sub_right (by omega) _, ?_⟩
      show q + b * z + (c' - b) * z = g.2
      rw [← e4, Nat.add_assoc, ← Nat.add_mul]
      congr 2
      omega
    · split at hh
      · rename_i h1
        have h1' : b = 0 := Nat.eq_of_beq_eq_true h1
        subst h1'
        refine ⟨_, hh, fun φ s ⟨g, c', e1, e2, e3, e4⟩ => ⟨_, _, _, e2, by omega, ?_⟩⟩
        exact ⟨g, c', e1, by simp [add_lit], by omega, by simpa using e4⟩
      · rename_i hq x0 hq0
        have h1' : ¬ b < m := fun e => by
          have e' : Nat.blt b m = true := by simpa [Nat.blt_eq] using e
          rw [e'] at hq
          cases hq
        have hz : h - b = 0 := by omega
        refine ⟨_, hh, fun φ s ⟨g, c', e1, e2, e3, e4⟩ => ⟨_, _, _, e2, by omega, ?_⟩⟩
        rw [hz]
        exact part_end e1 _ _ _ _
  · rename_i r
    split at hh
    · cases hh
    rename_i h0
    have h0' : h ≤ 0 := Nat.le_of_ble_eq_true h0
    have hz : h - b = 0 := by omega
    refine ⟨_, hh, fun φ s ⟨g, o, c', e1, e2⟩ => ⟨_, _, _, e2, by omega, ?_⟩⟩
    rw [hz]
    exact part_end e1 _ _ _ _
  · cases hh
section
variable {P : Program} {G dt n : Nat} {ds : List (Option Nat)} {o : Oper}
end
noncomputable def aheadF (size : Nat) (a : AV) (b h : Nat) (hp : HP) (k : KV) (els : R) : R := match a with
  | .sg r q m z => match Nat.ble h m with
    | true => els
    | false => match Nat.beq z size with
      | false => none
      | true => match Nat.beq size 0 with
        | true => none
        | false => match Nat.blt b h with
          | false => none
          | true => hp.on fun mem _ => onRow mem r fun _ _ _ _ cells => match Nat.ble (Nat.add q (Nat.mul h size)) cells.len with
            | false => none
            | true => k (.sg r (Nat.add q (Nat.mul b size)) (Nat.sub h b) size) hp
  | _ => els
theorem aheadF_some {size : Nat} {a : AV} {b h : Nat} {hp : HP} {k : KV} {els : R} {x : AV × HP} (hh : aheadF size a b h hp k els = some x) : els = some x ∨
    ∃ v, k v hp = some x ∧ ∀ φ w s, RH φ hp w → VR φ a s → ∃ (ad : Option Addr) (len cap : Nat), s = .slice ad len cap ∧ h ≤ cap ∧ VR φ v (.slice (if cap = b then ad else ad.map (·.add (b * size))) (h - b) (cap - b)) := by
  unfold aheadF at hh
  split at hh
  · rename_i r q m z
    split at hh
    · exact .inl hh
    rename_i hm0
    split at hh
    · cases hh
    rename_i hz
    split at hh
    · cases hh
    rename_i hsz
    split at hh
    · cases hh
    rename_i hbh
    cases hp with
    | mk mem nx =>
    obtain ⟨t1, gr, fz, ro, cells, hm, h2⟩ := onRow_some (show onRow mem r _ = some x from hh)
    split at h2
    · cases h2
    rename_i hln
    have hz' : z = size := Nat.eq_of_beq_eq_true hz
    subst hz'
    have hln' : q + h * z ≤ cells.len := Nat.le_of_ble_eq_true hln
    have hpos : 0 < z := Nat.pos_of_ne_zero fun e => by rw [e] at hsz; cases hsz
    have hbh' : b < h := by simpa [Nat.blt_eq] using hbh
    refine .inr ⟨_, h2, fun φ w s hw ⟨g, c', e1, e2, e3, e4⟩ => ⟨_, _, _, e2, ?_⟩⟩
    obtain ⟨ca, l, rest, mk, f1, f2, f3, _, f5, f6⟩ := RW.row hw hm e1
    have hll : l.length = cells.len := VL.len f3
    have hlen : ca.size = l.length + rest.length := by rw [← Array.length_toList, f2, List.length_append]
    have hcap : h ≤ c' := by
      have h1 : h * z ≤ c' * z := by omega
      exact Nat.le_of_mul_le_mul_right h1 hpos
    refine ⟨hcap, ?_⟩
    rw [if_neg (by omega)]
    refine ⟨g, _, e1, by simp only [Option.map_some, add_lit]; rfl, Nat.sub_le_sub_right hcap _, ?_⟩
    show q + b * z + (c' - b) * z = g.2
    rw [← e4, Nat.add_assoc, ← Nat.add_mul]
    congr 2
    omega
  · exact .inl hh
section
variable {P : Program} {G dt n : Nat} {ds : List (Option Nat)} {o : Oper}
theorem sliceO_ok {t el : TypeId} {i : TypeInfo} {x : Operand} {low high : Option Operand} (ho : o.op = .slice t x low high none) (hu : P.underlying t = some (.slice el)) (hi : P.info? el = some i) :
    StillOk P G dt n ds o (fun e t0 hp k => sliceLen ((opd G dt n ds x).run e t0) fun m => boundR (high.map (opd G dt n ds)) m e t0 fun h => boundR (low.map (opd G dt n ds)) 0 e t0 fun b => match Nat.ble b h with
      | false => none
      | true => aheadF i.size ((opd G dt n ds x).run e t0) b h hp k (partF i.size ((opd G dt n ds x).run e t0) b h fun v => k v hp)) :=
  fun e t0 hp k r hr => by
    obtain ⟨m, h1, hm⟩ := sliceLen_some hr
    obtain ⟨h, h2, hh⟩ := boundR_some h1
    obtain ⟨b, h3, hb⟩ := boundR_some h2
    split at h3
    · cases h3
    rename_i c2
    have c2' : b ≤ h := Nat.le_of_ble_eq_true c2
    have fin : ∀ v, k v hp = some r → (∀ φ w s, RH φ hp w → VR φ ((opd G dt n ds x).run e t0) s → ∃ (ad : Option Addr) (len cap : Nat), s = .slice ad len cap ∧ h ≤ cap ∧ VR φ v (.slice (if cap = b then ad else ad.map (·.add (b * i.size))) (h - b) (cap - b))) →
        ∃ v, k v hp = some r ∧ ∀ φ (a : Act) w, Glo G φ → OpsR G dt n ds φ e t0 a.eval o.op → RH φ hp w → ∃ v', (execOp a.eval o).run P w = .ok (.value v') w ∧ VR φ v v' := by
      intro v h4 hv
      refine ⟨v, h4, fun φ a w _ hx hw => ?_⟩
      obtain ⟨ad, len, cap, e1, e2, e3⟩ := hv φ w _ hw (hx x (by rw [ho]; simp [Op.operands, Call.operands]))
      obtain ⟨b', c', e4⟩ := hm φ _ (hx x (by rw [ho]; simp [Op.operands, Call.operands]))
      have hml : m = len := by rw [e1] at e4; injection e4 with _ e4 _; exact e4.symm
      subst hml
      have hrun := bounds_run (P := P) (w := w) true (hb φ a.eval (fun y h => hx y (by rw [ho, h]; simp [Op.operands, Call.operands]))) (hh φ a.eval (fun y h => hx y (by rw [ho, h]; simp [Op.operands, Call.operands]))) e2 c2'
      refine ⟨_, ?_, e3⟩
      unfold execOp
      rw [ho]
      simp [Instr.sliceAt, Instr.slice, run_underlying hu, e1, hrun, sizeOf, typeInfo, hi]
    rcases aheadF_some h3 with h4 | ⟨v, h4, h5⟩
    · obtain ⟨v, h5, hv⟩ := partF_some c2' h4
      exact fin v h5 fun φ w s _ hs => hv φ s hs
    · exact fin v h4 h5
end
noncomputable def part3F (size : Nat) (a : AV) (b h mx : Nat) (k : AV → R) : R := match a with
  | .sn => match Nat.ble mx 0 with
    | true => k .sn
    | false => none
  | .sl r q m (some c) => match Nat.ble mx c with
    | false => none
    | true => match Nat.beq mx b with
      | true => k (.sl r q (Nat.sub h b) (some (Nat.sub mx b)))
      | false => k (.sl r (Nat.add q (Nat.mul b size)) (Nat.sub h b) (some (Nat.sub mx b)))
  | .sl r q m none => match Nat.ble mx m with
    | false => none
    | true => match Nat.beq mx b with
      | true => k (.sl r q (Nat.sub h b) (some (Nat.sub mx b)))
      | false => k (.sl r (Nat.add q (Nat.mul b size)) (Nat.sub h b) (some (Nat.sub mx b)))
  | .sg r q m z => match Nat.ble mx m with
    | false => none
    | true => match Nat.beq mx b with
      | true => k (.sl r q (Nat.sub h b) (some (Nat.sub mx b)))
      | false => k (.sl r (Nat.add q (Nat.mul b size)) (Nat.sub h b) (some (Nat.sub mx b)))
  | _ => none
theorem part3F_some {size : Nat} {a : AV} {b h mx : Nat} {k : AV → R} {x : AV × HP} (hb : b ≤ h) (hm : h ≤ mx) (hh : part3F size a b h mx k = some x) :
    ∃ v, k v = some x ∧ ∀ φ s, VR φ a s → ∃ (ad : Option Addr) (len cap : Nat), s = .slice ad len cap ∧ mx ≤ cap ∧ VR φ v (.slice (if mx = b then ad else ad.map (·.add (b * size))) (h - b) (mx - b)) := by
  have key : ∀ (r : Id) (q : Nat) (y : AV × HP), (match Nat.beq mx b with
      | true => k (.sl r q (Nat.sub h b) (some (Nat.sub mx b)))
      | false => k (.sl r (Nat.add q (Nat.mul b size)) (Nat.sub h b) (some (Nat.sub mx b)))) = some y →
      ∃ v, k v = some y ∧ ∀ φ g, φ r = some g → VR φ v (.slice (if mx = b then some ⟨g.1, q, none⟩ else (some (⟨g.1, q, none⟩ : Addr)).map (·.add (b * size))) (h - b) (mx - b)) := by
    intro r q y hy
    split at hy
    · rename_i h1
      have h1' : mx = b := Nat.eq_of_beq_eq_true h1
      refine ⟨_, hy, fun φ g e1 => ?_⟩
      rw [if_pos h1']
      exact ⟨g, _, e1, rfl, Nat.sub_le_sub_right hm _, fun _ h => by cases h; rfl⟩
    · rename_i h1
      have h1' : ¬ (mx = b) := fun e => by subst e; rw [Nat.beq_refl] at h1; cases h1
      refine ⟨_, hy, fun φ g e1 => ?_⟩
      rw [if_neg h1']
      exact ⟨g, _, e1, by simp only [Option.map_some, add_lit]; rfl, Nat.sub_le_sub_right hm _, fun _ h => by cases h; rfl⟩
  unfold part3F at hh
  split at hh
  · split at hh
    · rename_i h0
      have h0' : mx ≤ 0 := Nat.le_of_ble_eq_true h0
      refine ⟨_, hh, fun φ s hs => ⟨none, 0, 0, hs, h0', ?_⟩⟩
      have : mx = 0 := by omega
      have : h = 0 := by omega
      have : b = 0 := by omega
      subst_vars
      rfl
    · cases hh
  · rename_i r q m c
    split at hh
    · cases hh
    rename_i h0
    have h0' : mx ≤ c := Nat.le_of_ble_eq_true h0
    obtain ⟨v, hv, hs⟩ := key r q x hh
    exact ⟨v, hv, fun φ s ⟨g, c', e1, e2, e3, e4⟩ => ⟨_, _, _, e2, by rw [e4 c rfl]; exact h0', hs φ g e1⟩⟩
  · rename_i r q m
    split at hh
    · cases hh
    rename_i h0
    have h0' : mx ≤ m := Nat.le_of_ble_eq_true h0
    obtain ⟨v, hv, hs⟩ := key r q x hh
    exact ⟨v, hv, fun φ s ⟨g, c', e1, e2, e3, e4⟩ => ⟨_, _, _, e2, by omega, hs φ g e1⟩⟩
  · rename_i r q m z
    split at hh
    · cases hh
    rename_i h0
    have h0' : mx ≤ m := Nat.le_of_ble_eq_true h0
    obtain ⟨v, hv, hs⟩ := key r q x hh
    exact ⟨v, hv, fun φ s ⟨g, c', e1, e2, e3, e4⟩ => ⟨_, _, _, e2, by omega, hs φ g e1⟩⟩
  · cases hh
theorem bounds3_run {P : Program} {w : World} {len cap l h mx : Nat} {low : Option Value} {kh km : IntKind} (hl : BV low 0 l) (h0 : mx ≤ cap) (h1 : h ≤ mx) (h2 : l ≤ h) :
    (Instr.sliceBounds true len cap low (some (.int kh (h : Int))) (some (.int km (mx : Int)))).run P w = .ok (l, h, mx) w := by
  have e1 : ∀ kd code, (Instr.sliceBound (.int kd (mx : Int)) cap code).run P w = .ok mx w := fun kd code => by
    rw [run_sliceBound w kd mx cap code (by omega) (by omega)]; simp
  have e2 : ∀ kd code, (Instr.sliceBound (.int kd (h : Int)) mx code).run P w = .ok h w := fun kd code => by
    rw [run_sliceBound w kd h mx code (by omega) (by omega)]; simp
  have e3 : ∀ kd code, (Instr.sliceBound (.int kd (l : Int)) h code).run P w = .ok l w := fun kd code => by
    rw [run_sliceBound w kd l h code (by omega) (by omega)]; simp
  rcases hl with ⟨rfl, rfl⟩ | ⟨kl, rfl⟩ <;> simp [Instr.sliceBounds, e1, e2, e3]
section
variable {P : Program} {G dt n : Nat} {ds : List (Option Nat)} {o : Oper}
theorem sliceV3_ok {t el : TypeId} {i : TypeInfo} {x hi_ mx_ : Operand} {low : Option Operand} (ho : o.op = .slice t x low (some hi_) (some mx_)) (hu : P.underlying t = some (.slice el)) (hi : P.info? el = some i) :
    PureOk P G dt n ds o (fun e t0 hp k => boundR (some (opd G dt n ds hi_)) 0 e t0 fun h => boundR (some (opd G dt n ds mx_)) 0 e t0 fun mx => boundR (low.map (opd G dt n ds)) 0 e t0 fun b => match Nat.ble b h with
      | false => none
      | true => match Nat.ble h mx with
        | false => none
        | true => part3F i.size ((opd G dt n ds x).run e t0) b h mx fun v => k v hp) :=
  .pure fun e t0 hp k r hr => by
    obtain ⟨h, h2, hh⟩ := boundR_some (b := some hi_) hr
    obtain ⟨mx, h3, hmx⟩ := boundR_some (b := some mx_) h2
    obtain ⟨b, h4, hb⟩ := boundR_some h3
    split at h4
    · cases h4
    rename_i c1
    split at h4
    · cases h4
    rename_i c2
    have c1' : b ≤ h := Nat.le_of_ble_eq_true c1
    have c2' : h ≤ mx := Nat.le_of_ble_eq_true c2
    obtain ⟨v, h5, hv⟩ := part3F_some c1' c2' h4
    refine ⟨_, h5, fun φ a w hx => ?_⟩
    obtain ⟨ad, len, cap, e1, e2, e3⟩ := hv φ _ (hx x (by rw [ho]; simp [Op.operands, Call.operands]))
    have q1 := hh φ a.eval (fun y h => by cases h; exact hx hi_ (by rw [ho]; simp [Op.operands, Call.operands]))
    have q2 := hmx φ a.eval (fun y h => by cases h; exact hx mx_ (by rw [ho]; simp [Op.operands, Call.operands]))
    rcases q1 with ⟨q1, -⟩ | ⟨kh, q1⟩
    · cases q1
    rcases q2 with ⟨q2, -⟩ | ⟨km, q2⟩
    · cases q2
    have hrun := bounds3_run (P := P) (w := w) (len := len) (cap := cap) (kh := kh) (km := km) (hb φ a.eval (fun y h => hx y (by rw [ho, h]; simp [Op.operands, Call.operands]))) e2 c2' c1'
    simp only [Option.map_some, Option.some.injEq] at q1 q2
    refine ⟨_, ?_, e3⟩
    unfold execOp
    rw [ho]
    simp [Instr.sliceAt, Instr.slice, run_underlying hu, e1, q1, q2, hrun, sizeOf, typeInfo, hi]
end
end Go.Proofs.YtobaebpmdimljaaGreatDoor.Clo
end
