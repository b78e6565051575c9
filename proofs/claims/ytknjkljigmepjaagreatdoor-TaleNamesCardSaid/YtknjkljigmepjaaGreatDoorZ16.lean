/- Part 16 of a proof laid in parts, one behind the other; no condition of its own. -/
import Derived.Test.YtknjkljigmepjaaGreatDoorZ15
set_option linter.all false
section
namespace Go.Proofs.YtknjkljigmepjaaGreatDoor.Clo
open Go.RowKit
set_option linter.unusedVariables false
set_option linter.unusedSimpArgs false
set_option linter.constructorNameAsVariable false
variable [Tabs]
noncomputable def nmB (G : Nat) (bs : List Cut) (n b : Nat) (r : Id) : Option (Id × Nat) := match inR (G + bs.length) n r with
  | true => some (sh (G + bs.length) b r, 0)
  | false => match sameId r (path DB (num r)) && Nat.ble G (num r) with
    | true => match bs[num r - G]? with
      | some c => some (c.1, c.2.1)
      | none => none
    | false => none
noncomputable def AV.back (nm : Id → Option (Id × Nat)) : AV → Option AV
  | .cons x r => match x.back nm with
    | some ya => (match r.back nm with
      | some yb => some (.cons ya yb)
      | none => none)
    | none => none
  | .ifc t x => match x.back nm with
    | some ya => some (.ifc t ya)
    | none => none
  | .tu l => match l.back nm with
    | some ya => some (.tu ya)
    | none => none
  | .ag l => match l.back nm with
    | some ya => some (.ag ya)
    | none => none
  | .sl r o n c => match nm r with
    | some pr => some (.sl pr.1 (pr.2 + o) n c)
    | none => none
  | .sg r o n z => match nm r with
    | some pr => some (.sg pr.1 (pr.2 + o) n z)
    | none => none
  | .se r q z => match nm r with
    | some pr => some (.se pr.1 (pr.2 + q) z)
    | none => none
  | x => match x.plain with
    | true => some x
    | false => none
def NmOk (φ ψ : Id → Option Plc) (nm : Id → Option (Id × Nat)) : Prop := ∀ r p, nm r = some p → ∀ g, ψ r = some g → ∃ g', φ p.1 = some g' ∧ g = (g'.1, g'.2.1, g'.2.2 + p.2)
theorem nback_ok {φ ψ : Id → Option Plc} {nm : Id → Option (Id × Nat)} (H : NmOk φ ψ nm) : ∀ (x y : AV), x.back nm = some y → (∀ v, VR ψ x v → VR φ y v) ∧ (∀ l, VL ψ x l → VL φ y l) := by
  intro x
  induction x with
  | cons x r hx hr =>
    intro y h
    simp only [AV.back] at h
    split at h
    · rename_i a ha
      split at h
      · rename_i b hb
        cases h
        exact ⟨fun v hv => hv.elim, fun l ⟨v, vs, e, h1, h2⟩ => ⟨v, vs, e, (hx _ ha).1 _ h1, (hr _ hb).2 _ h2⟩⟩
      · cases h
    · cases h
  | ifc t x hx =>
    intro y h
    simp only [AV.back] at h
    split at h
    · rename_i a ha
      cases h
      exact ⟨fun v ⟨w, e, h1⟩ => ⟨w, e, (hx _ ha).1 _ h1⟩, fun l hl => hl.elim⟩
    · cases h
  | tu l hl =>
    intro y h
    simp only [AV.back] at h
    split at h
    · rename_i a ha
      cases h
      exact ⟨fun v ⟨xs, e, h1⟩ => ⟨xs, e, (hl _ ha).2 _ h1⟩, fun l hl => hl.elim⟩
    · cases h
  | ag l hl =>
    intro y h
    simp only [AV.back] at h
    split at h
    · rename_i a ha
      cases h
      exact ⟨fun v ⟨xs, e, h1⟩ => ⟨xs, e, (hl _ ha).2 _ h1⟩, fun l hl => hl.elim⟩
    · cases h
  | sl r o n c =>
    intro y h
    simp only [AV.back] at h
    split at h
    · rename_i p hp
      cases h
      refine ⟨fun v ⟨g, k, e1, e2, e3, e4⟩ => ?_, fun l hl => hl.elim⟩
      obtain ⟨g', h1, rfl⟩ := H _ _ hp _ e1
      exact ⟨g', k, h1, by rw [e2]; simp only [Nat.add_assoc], e3, e4⟩
    · cases h
  | sg r o n z =>
    intro y h
    simp only [AV.back] at h
    split at h
    · rename_i p hp
      cases h
      refine ⟨fun v ⟨g, k, e1, e2, e3, e4⟩ => ?_, fun l hl => hl.elim⟩
      obtain ⟨g', h1, rfl⟩ := H _ _ hp _ e1
      exact ⟨g', k, h1, by rw [e2]; simp only [Nat.add_assoc], e3, by simpa only [Nat.add_assoc] using e4⟩
    · cases h
  | se r q z =>
    intro y h
    simp only [AV.back] at h
    split at h
    · rename_i p hp
      cases h
      refine ⟨fun v ⟨g, o, k, e1, e2, e3⟩ => ?_, fun l hl => hl.elim⟩
      obtain ⟨g', h1, rfl⟩ := H _ _ hp _ e1
      refine ⟨g', o, k, h1, e2, ?_⟩
      rcases e3 with e3 | e3 | e3
      · exact .inl e3
      · exact .inr (.inl e3)
      · exact .inr (.inr ⟨by have := e3.1; simp only at this; omega, e3.2⟩)
    · cases h
  | _ =>
    intro y h
    simp only [AV.back] at h
    split at h
    · rename_i hp
      cases h
      refine ⟨fun v hv => ?_, fun l hv => ?_⟩
      · show (AV.says φ _).1 v
        rw [AV.plain_says (ψ := ψ) hp]
        exact hv
      · show (AV.says φ _).2 l
        rw [AV.plain_says (ψ := ψ) hp]
        exact hv
    · cases h
inductive LTree where
  | leaf
  | node (l : LTree) (n : Nat) (x : AV) (cs : List (TypeId × AV)) (e : MB) (r : LTree)
noncomputable def LTree.find (n : Nat) (x : AV) (cs : List (TypeId × AV)) (T : LTree) : Option MB :=
  LTree.rec (motive := fun _ => Option MB) none (fun _ j a ds v _ ihl ihr => Bool.rec (motive := fun _ => Option MB) (Bool.rec (motive := fun _ => Option MB) (Bool.rec (motive := fun _ => Option MB) none (some v) (eqR a x && sameC ds cs)) ihr (Nat.blt j n)) ihl (Nat.blt n j)) T
noncomputable def LTree.all (Q : AV → List (TypeId × AV) → MB → Bool) : LTree → Bool
  | .leaf => true
  | .node l _ a cs v r => l.all Q && (Q a cs v && r.all Q)
theorem LTree.all_node {Q : AV → List (TypeId × AV) → MB → Bool} {l r : LTree} {n : Nat} {a : AV} {v : MB} {cs : List (TypeId × AV)} (h1 : l.all Q = true) (h2 : Q a cs v = true) (h3 : r.all Q = true) : (LTree.node l n a cs v r).all Q = true := by
  simp only [LTree.all, h1, h2, h3, Bool.and_self]
theorem LTree.find_some {Q : AV → List (TypeId × AV) → MB → Bool} {n : Nat} {x : AV} {v : MB} {cs : List (TypeId × AV)} : ∀ {T : LTree}, T.all Q = true → T.find n x cs = some v → Q x cs v = true
  | .leaf, _, h => by cases h
  | .node l j a ds u r, h, k => by
    simp only [LTree.all, Bool.and_eq_true] at h
    have k' : (Bool.rec (motive := fun _ => Option MB) (Bool.rec (motive := fun _ => Option MB) (Bool.rec (motive := fun _ => Option MB) none (some u) (eqR a x && sameC ds cs)) (r.find n x cs) (Nat.blt j n)) (l.find n x cs) (Nat.blt n j) : Option MB) = some v := k
    cases h1 : Nat.blt n j with
    | true => rw [h1] at k'; exact LTree.find_some h.1 k'
    | false =>
      rw [h1] at k'
      cases h2 : Nat.blt j n with
      | true => rw [h2] at k'; exact LTree.find_some h.2.2 k'
      | false =>
        rw [h2] at k'
        cases h3 : (eqR a x && sameC ds cs) with
        | false => rw [h3] at k'; cases k'
        | true =>
          rw [h3] at k'
          simp only [Bool.and_eq_true] at h3
          have e1 := eqR_eq h3.1
          have e2 := sameC_eq h3.2
          cases k'
          subst e1 e2
          exact h.2.1
section
variable {P : Program} {G : Nat}
noncomputable def runL (T : FTree P G) (fuel : Nat) (f : FuncId) (x : AV) (cs : List (TypeId × AV)) (e : MB) : Bool := match runK T fuel f x cs with
  | some (v, .mk m1 _) => eqA v e.v && memOk m1 e.mem
  | none => false
noncomputable def knownL (T : FTree P G) (fuel : Nat) (f : FuncId) (x : AV) (cs : List (TypeId × AV)) (e : MB) : Bool :=
  Nat.blt (G + cs.length) (4 ^ DB) && ((e.mem.all fun p => okRow (inR (G + cs.length) e.n) p.2 && inR (G + cs.length) e.n (path DB p.1)) && runL T fuel f x cs e)
noncomputable def lookL (G : Nat) (M : LTree) (args : AV) (hp : HP) (k : AV → HP → R) (els : R) : R := match hp with
  | .mk m nx => match frzR m G args [] with
    | some (x, a) => match M.find (keyC (a.map (·.2.2)) (x.keyI 1)) x (a.map (·.2.2)) with
      | some b => match b.v.back (nmB G a b.n (num nx)) with
        | some v => match Nat.blt (Nat.add (num nx) b.n) 65536 with
          | true => k v (.mk (addB (sh (G + a.length) (num nx)) b.mem m) (path DB (Nat.add (num nx) b.n)))
          | false => els
        | none => els
      | none => els
    | none => els
noncomputable def Ent.lookB {T : FTree P G} {fuel : Nat} (e : Ent P G) (M : LTree) (hG : okG G = true) (hc : ∀ (ars : Array Value) w, (callFunc e.f ars).run P w = .ok (.enter e.f ars) w) (h : M.all (knownL T fuel e.f) = true) : Ent P G :=
  ⟨e.f, .mk fun hd args hp k kp => lookL G M args hp k (e.m.run hd args hp k kp), e.d, (fun hd hok args hp k kp r hr => by
    have hr' : lookL G M args hp k (e.m.run hd args hp k kp) = some r := hr
    unfold lookL at hr'
    split at hr'
    rename_i m nx
    split at hr'
    · rename_i x a hz
      rw [frzR_eq] at hz
      split at hr'
      · rename_i b hf
        split at hr'
        · rename_i v hv
          split at hr'
          · rename_i hcp
            have hcap' : num nx + b.n < 4 ^ DB := by
              rw [show 4 ^ DB = 65536 from by decide]
              simpa [Nat.blt_eq] using hcp
            have hk := LTree.find_some h hf
            simp only [knownL, Bool.and_eq_true] at hk
            obtain ⟨p1, p2, p3⟩ := hk
            unfold runL at p3
            split at p3
            · rename_i v' m1 nx1 hrun
              simp only [Bool.and_eq_true] at p3
              have := eqA_eq p3.1
              subst this
              have hL := memOk_all p3.2
              rw [List.length_map] at p1 p2
              have hcap : G + a.length < 4 ^ DB := by simpa [Nat.blt_eq] using p1
              have hok2 : ∀ p ∈ b.mem, okRow (inR (G + a.length) b.n) p.2 = true ∧ inR (G + a.length) b.n (path DB p.1) = true := fun p hp => by
                have := List.all_eq_true.1 p2 p hp
                simpa only [Bool.and_eq_true] using this
              refine .inl ⟨_, _, hr', fun φ B w ars g1 hw hargs => .inl ⟨hc ars w, ?_⟩⟩
              have hw' : WR φ B m nx w := hw
              have hgw := g1.size hw'
              obtain ⟨i1, new, e0, _, l1⟩ := frz_ok (G := G) hw' args [] x a hz
              rw [List.nil_append] at e0
              rw [← e0] at l1
              obtain ⟨pn, c1, f1⟩ := l1 _ hargs
              have ha : VL (cutF G pn) x ars.toList := by
                have := f1 [] [] rfl hcap
                simpa using this
              have hW := cut_wr hG hw' hgw c1 (i1 List.nodup_nil) hcap
              rcases (hd0_ok T fuel).c e.f x _ _ _ _ hrun with ⟨v1, hp1, h1, h2⟩ | ⟨v1, hp1, h1, h2⟩
              · cases h1
                have h0 : WH (cutF G pn) (⟨w.heap.size, []⟩ : Bse []) (.mk (mkMem (mkC G (a.map (·.2.2)))) (path DB (G + (a.map (·.2.2)).length))) w := by
                  rw [List.length_map]
                  exact hW
                rcases h2 (cutF G pn) ⟨w.heap.size, []⟩ w ars (fun g hg => ⟨_, cutF_glob (okG_lt hG) hg⟩) h0 ha with ⟨_, h3⟩ | ⟨v2, w2, h3, _⟩
                · refine h3.mono fun e' w' ⟨u, e1, ψ, h4, h5, h6⟩ => ?_
                  have hb : Below w.heap.size w w' := Step.below h0 h5
                  obtain ⟨φ', s1, s2, s3⟩ := WR.join (G := G + a.length) (n := b.n) hw' hb h6 hL hok2 hcap'
                  refine ⟨u, e1, φ', ?_, s3, s2⟩
                  refine (nback_ok (φ := φ') (ψ := ψ) ?_ _ _ hv).1 _ h4
                  intro r p hp g hg
                  unfold nmB at hp
                  split at hp
                  · rename_i hin
                    cases hp
                    exact ⟨g, by rw [s1 r hin]; exact hg, rfl⟩
                  · split at hp
                    · rename_i hin
                      simp only [Bool.and_eq_true] at hin
                      have e2 := sameId_eq hin.1
                      have e3 := Nat.le_of_ble_eq_true hin.2
                      split at hp
                      · rename_i c hcc
                        cases hp
                        have hi := (List.getElem?_eq_some_iff.1 hcc).1
                        have hl := c1.len
                        have hpn : pn[num r - G]? = some (pn[num r - G]'(by omega)) := List.getElem?_eq_getElem (by omega)
                        have hcut : cutF G pn r = some (pn[num r - G]'(by omega)) := by
                          have h7 := cutF_at (G := G) (i := num r - G) (ps := pn) (by omega)
                          rw [show G + (num r - G) = num r from by omega, ← e2] at h7
                          rw [h7, hpn]
                        have hψ := h5.more _ _ hcut
                        rw [hg] at hψ
                        cases hψ
                        obtain ⟨⟨g', y, a1, a2, a3⟩, _⟩ := c1.at' hcc hpn
                        exact ⟨g', s3.more _ _ a1, a2⟩
                      · cases hp
                    · cases hp
                · rw [hc ars w] at h3
                  cases h3
              · cases h1
            · cases p3
          · exact e.ok hd hok args _ k kp r hr'
        · exact e.ok hd hok args _ k kp r hr'
      · exact e.ok hd hok args _ k kp r hr'
    · exact e.ok hd hok args _ k kp r hr'), e.okD, true, fun _ => hc⟩
end
end Go.Proofs.YtknjkljigmepjaaGreatDoor.Clo
end
