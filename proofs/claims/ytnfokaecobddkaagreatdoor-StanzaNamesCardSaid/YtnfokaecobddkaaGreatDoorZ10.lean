import Derived.Test.YtnfokaecobddkaaGreatDoorZ09
import Derived.Test.YtnfokaecobddkaaGreatDoorProg
set_option linter.all false
section
/- The closed run: calls whose answers are known: a table of them, each proved by a run of its own. -/
namespace Go.Proofs.YtnfokaecobddkaaGreatDoor.Clo
open Go.RowKit
set_option linter.unusedVariables false
set_option linter.unusedSimpArgs false
set_option linter.constructorNameAsVariable false
/-- told without blocks -/
def AV.plain : AV → Bool
  | .nil | .inil | .fnil | .mn | .sn | .pn | .s _ | .b _ | .i _ _ => true
  | .cons x r => x.plain && r.plain
  | .tu l => l.plain
  | .ag l => l.plain
  | _ => false
theorem AV.plain_says {φ ψ : Id → Option Plc} : ∀ {x : AV}, x.plain = true → x.says φ = x.says ψ
  | .u, h => by cases h
  | .nil, h => rfl
  | .cons x r, h => by
    simp only [AV.plain, Bool.and_eq_true] at h
    simp only [AV.says]
    rw [AV.plain_says (ψ := ψ) h.1, AV.plain_says (ψ := ψ) h.2]
  | .inil, h => rfl
  | .ifc t x, h => by cases h
  | .fnil, h => rfl
  | .fn _ _ _, h => by cases h
  | .mn, h => rfl
  | .mp _, h => by cases h
  | .tu l, h => by
    simp only [AV.says]
    rw [AV.plain_says (ψ := ψ) (show l.plain = true from h)]
  | .ag l, h => by
    simp only [AV.says]
    rw [AV.plain_says (ψ := ψ) (show l.plain = true from h)]
  | .sn, h => rfl
  | .sl _ _ _ _, h => by cases h
  | .sg _ _ _ _, h => by cases h
  | .pn, h => rfl
  | .p _ _, h => by cases h
  | .s _, h => rfl
  | .b _, h => rfl
  | .i _ _, h => rfl
noncomputable def listSame (l m : List Nat) : Bool :=
  List.rec (motive := fun _ => List Nat → Bool) (fun m => match m with | [] => true | _ => false) (fun x _ ih m => match m with | y :: m => Bool.rec (motive := fun _ => Bool) false (ih m) (Nat.beq x y) | _ => false) l m
theorem listSame_eq : ∀ {l m : List Nat}, listSame l m = true → l = m
  | [], [], _ => rfl
  | [], _ :: _, h => by cases h
  | _ :: _, [], h => by cases h
  | x :: l, y :: m, h => by
    have h' : (Bool.rec (motive := fun _ => Bool) false (listSame l m) (Nat.beq x y) : Bool) = true := h
    cases hb : Nat.beq x y with
    | false => rw [hb] at h'; cases h'
    | true =>
      rw [hb] at h'
      rw [Nat.eq_of_beq_eq_true hb, listSame_eq h']
noncomputable def AV.same : AV → AV → Bool
  | .nil, .nil => true
  | .inil, .inil => true
  | .fnil, .fnil => true
  | .mn, .mn => true
  | .sn, .sn => true
  | .pn, .pn => true
  | .s l, .s m => listSame l m
  | .b x, .b y => x == y
  | .i k n, .i j m => decide (k = j) && decide (n = m)
  | .cons x r, .cons y q => x.same y && r.same q
  | .tu l, .tu m => l.same m
  | .ag l, .ag m => l.same m
  | _, _ => false
theorem AV.same_eq : ∀ {x y : AV}, x.same y = true → x = y := by
  intro x
  induction x with
  | cons x r ihx ihr =>
    intro y h
    cases y <;> simp only [AV.same, Bool.false_eq_true, Bool.and_eq_true] at h
    rw [ihx h.1, ihr h.2]
  | tu l ih =>
    intro y h
    cases y <;> simp only [AV.same, Bool.false_eq_true] at h
    rw [ih h]
  | ag l ih =>
    intro y h
    cases y <;> simp only [AV.same, Bool.false_eq_true] at h
    rw [ih h]
  | s l =>
    intro y h
    cases y <;> simp only [AV.same, Bool.false_eq_true] at h
    rw [listSame_eq h]
  | _ =>
    intro y h
    cases y <;> simp_all [AV.same]
/-- a number for a list of arguments: those that are alike have the same -/
noncomputable def keyS (l : List Nat) (acc : Nat) : Nat := List.rec (motive := fun _ => Nat → Nat) (fun acc => acc) (fun x _ ih acc => ih (Nat.add (Nat.mul acc 257) (Nat.succ x))) l acc
noncomputable def AV.key : AV → Nat → Nat
  | .s l, acc => keyS l (Nat.succ acc)
  | .b x, acc => Bool.rec (Nat.mul acc 3) (Nat.add (Nat.mul acc 3) 1) x
  | .i _ n, acc => Nat.add (Nat.mul acc 1000003) (Int.natAbs n)
  | .cons x r, acc => r.key (x.key acc)
  | .tu l, acc => l.key acc
  | .ag l, acc => l.key acc
  | _, acc => acc
inductive MTree where
  | leaf
  | node (l : MTree) (n : Nat) (args v : AV) (r : MTree)
noncomputable def MTree.find (n : Nat) (args : AV) (T : MTree) : Option AV :=
  MTree.rec (motive := fun _ => Option AV) none (fun _ j a v _ ihl ihr => Bool.rec (motive := fun _ => Option AV) (Bool.rec (motive := fun _ => Option AV) (Bool.rec (motive := fun _ => Option AV) none (some v) (a.same args)) ihr (Nat.blt j n)) ihl (Nat.blt n j)) T
section
variable {P : Program} {G : Nat}
/-- a run comes to this -/
noncomputable def runIs (T : FTree P G) (fuel : Nat) (f : FuncId) (args v : AV) : Bool := match runC T fuel f args with
  | some (v', _) => v'.same v
  | none => false
noncomputable def MTree.all (Q : AV → AV → Bool) : MTree → Bool
  | .leaf => true
  | .node l _ a v r => l.all Q && (Q a v && r.all Q)
theorem MTree.find_some {Q : AV → AV → Bool} {n : Nat} {args v : AV} : ∀ {T : MTree}, T.all Q = true → T.find n args = some v → Q args v = true
  | .leaf, _, h => by cases h
  | .node l j a u r, h, k => by
    simp only [MTree.all, Bool.and_eq_true] at h
    have k' : (Bool.rec (motive := fun _ => Option AV) (Bool.rec (motive := fun _ => Option AV) (Bool.rec (motive := fun _ => Option AV) none (some u) (a.same args)) (r.find n args) (Nat.blt j n)) (l.find n args) (Nat.blt n j) : Option AV) = some v := k
    cases h1 : Nat.blt n j with
    | true => rw [h1] at k'; exact MTree.find_some h.1 k'
    | false =>
      rw [h1] at k'
      cases h2 : Nat.blt j n with
      | true => rw [h2] at k'; exact MTree.find_some h.2.2 k'
      | false =>
        rw [h2] at k'
        cases h3 : a.same args with
        | false => rw [h3] at k'; cases k'
        | true =>
          rw [h3] at k'
          have := AV.same_eq h3
          cases k'
          subst this
          exact h.2.1
/-- what a table must be for it to be told -/
noncomputable def known (T : FTree P G) (fuel : Nat) (f : FuncId) (args v : AV) : Bool := args.plain && (v.plain && runIs T fuel f args v)
theorem WR.below {φ : Id → Option Plc} {B : Nat} {h : Mem} {nx : Id} {w w' : World} (hw : WR φ B h nx w) (k : Below w.heap.size w w') : WR φ B h nx w' ∧ Step φ h nx w φ h nx w' where
  left := ⟨hw.len, hw.fresh, fun r x g h1 h2 => by rw [k.block g.1 (hw.lt r g h2)]; exact hw.blk r x g h1 h2, hw.inj, fun r g h => Nat.lt_of_lt_of_le (hw.lt r g h) k.size, hw.base, Nat.le_trans hw.bsz k.size⟩
  right := ⟨.refl _, k.os, k.tape, k.output, k.size, fun g hg _ => k.block g hg, fun _ _ h => h, fun _ _ h k => ⟨h, k⟩, Nat.le_refl _, fun _ _ _ => rfl⟩
theorem Glo.size {φ : Id → Option Plc} {B : Nat} {h : Mem} {nx : Id} {w : World} (g : Glo G φ) (hw : WR φ B h nx w) : G ≤ w.heap.size := by
  cases G with
  | zero => exact Nat.zero_le _
  | succ n =>
    obtain ⟨K, e⟩ := g n (Nat.lt_succ_self n)
    exact hw.lt _ _ e
/-- a function with a table of answers ahead of it -/
noncomputable def Ent.memo {T : FTree P G} {fuel : Nat} (e : Ent P G) (M : MTree) (hG : Nat.blt G (4 ^ DB) = true) (hc : ∀ (ars : Array Value) w, (callFunc e.f ars).run P w = .ok (.enter e.f ars) w) (h : M.all (known T fuel e.f) = true) : Ent P G :=
  ⟨e.f, .mk fun hd args hp k kp => Option.rec (motive := fun _ => R) (e.m.run hd args hp k kp) (fun v => k v hp) (M.find (args.key 1) args), e.d, (fun hd hok args hp k kp r hr => by
    have hr' : (Option.rec (motive := fun _ => R) (e.m.run hd args hp k kp) (fun v => k v hp) (M.find (args.key 1) args) : R) = some r := hr
    cases hf : M.find (args.key 1) args with
    | none => rw [hf] at hr'; exact e.ok hd hok args hp k kp r hr'
    | some v =>
      rw [hf] at hr'
      have hk := MTree.find_some h hf
      simp only [known, Bool.and_eq_true] at hk
      obtain ⟨p1, p2, p3⟩ := hk
      unfold runIs at p3
      split at p3
      · rename_i v' hp' hrun
        have := AV.same_eq p3
        subst this
        cases hp with
        | mk m nx =>
        refine .inl ⟨_, _, hr', fun φ B w ars g1 hw hargs => .inl ⟨hc ars w, ?_⟩⟩
        have hw' : WR φ B m nx w := hw
        refine (calls_of_run hG hc hrun w (g1.size hw') ars fun ψ => ?_).mono fun e' w' ⟨u, e1, ⟨ψ, h1⟩, h2⟩ => ?_
        · show (args.says ψ).2 _
          rw [AV.plain_says (ψ := φ) p1]
          exact hargs
        · obtain ⟨s1, s2⟩ := hw'.below h2
          refine ⟨u, e1, φ, ?_, s2, s1⟩
          show (AV.says φ _).1 _
          rw [AV.plain_says (ψ := ψ) p2]
          exact h1
      · cases p3), e.okD⟩
end
end Go.Proofs.YtnfokaecobddkaaGreatDoor.Clo
end
section
/- The closed run of this program: the table of its functions. -/
namespace Go.Proofs.YtnfokaecobddkaaGreatDoor
open Go.Proofs.YtnfokaecobddkaaGreatDoor.Clo Go.RowKit
set_option maxRecDepth 100000
set_option maxHeartbeats 0
theorem mixed_ : Tryz.prog.follows .mixedOrders = true := by kernel_rfl
noncomputable def e6 : Ent Tryz.prog 9 := .of 100000 6 mixed_ Tryz.func6 Tryz.call6
noncomputable def e7 : Ent Tryz.prog 9 := .of 100000 7 mixed_ Tryz.func7 Tryz.call7
noncomputable def e9 : Ent Tryz.prog 9 := .of 100000 9 mixed_ Tryz.func9 Tryz.call9
noncomputable def e10 : Ent Tryz.prog 9 := .of 100000 10 mixed_ Tryz.func10 Tryz.call10
noncomputable def e11 : Ent Tryz.prog 9 := .of 100000 11 mixed_ Tryz.func11 Tryz.call11
noncomputable def e13 : Ent Tryz.prog 9 := .of 100000 13 mixed_ Tryz.func13 Tryz.call13
noncomputable def e16 : Ent Tryz.prog 9 := .of 100000 16 mixed_ Tryz.func16 Tryz.call16
noncomputable def e17 : Ent Tryz.prog 9 := .of 100000 17 mixed_ Tryz.func17 Tryz.call17
noncomputable def e18 : Ent Tryz.prog 9 := .of 100000 18 mixed_ Tryz.func18 Tryz.call18
noncomputable def e19 : Ent Tryz.prog 9 := .of 100000 19 mixed_ Tryz.func19 Tryz.call19
noncomputable def e20 : Ent Tryz.prog 9 := .of 100000 20 mixed_ Tryz.func20 Tryz.call20
noncomputable def e21 : Ent Tryz.prog 9 := .of 100000 21 mixed_ Tryz.func21 Tryz.call21
noncomputable def e22 : Ent Tryz.prog 9 := .of 100000 22 mixed_ Tryz.func22 Tryz.call22
noncomputable def e23 : Ent Tryz.prog 9 := .of 100000 23 mixed_ Tryz.func23 Tryz.call23
noncomputable def e24 : Ent Tryz.prog 9 := .of 100000 24 mixed_ Tryz.func24 Tryz.call24
noncomputable def e25 : Ent Tryz.prog 9 := .of 100000 25 mixed_ Tryz.func25 Tryz.call25
noncomputable def e26 : Ent Tryz.prog 9 := .of 100000 26 mixed_ Tryz.func26 Tryz.call26
noncomputable def e27 : Ent Tryz.prog 9 := .of 100000 27 mixed_ Tryz.func27 Tryz.call27
noncomputable def e28 : Ent Tryz.prog 9 := .of 100000 28 mixed_ Tryz.func28 Tryz.call28
noncomputable def e29 : Ent Tryz.prog 9 := .of 100000 29 mixed_ Tryz.func29 Tryz.call29
noncomputable def e30 : Ent Tryz.prog 9 := .of 100000 30 mixed_ Tryz.func30 Tryz.call30
noncomputable def e31 : Ent Tryz.prog 9 := .of 100000 31 mixed_ Tryz.func31 Tryz.call31
noncomputable def e32 : Ent Tryz.prog 9 := .of 100000 32 mixed_ Tryz.func32 Tryz.call32
noncomputable def e33 : Ent Tryz.prog 9 := .of 100000 33 mixed_ Tryz.func33 Tryz.call33
noncomputable def e34 : Ent Tryz.prog 9 := .of 100000 34 mixed_ Tryz.func34 Tryz.call34
noncomputable def e35 : Ent Tryz.prog 9 := .of 100000 35 mixed_ Tryz.func35 Tryz.call35
noncomputable def e36 : Ent Tryz.prog 9 := .of 100000 36 mixed_ Tryz.func36 Tryz.call36
noncomputable def e37 : Ent Tryz.prog 9 := .of 100000 37 mixed_ Tryz.func37 Tryz.call37
noncomputable def e38 : Ent Tryz.prog 9 := .of 100000 38 mixed_ Tryz.func38 Tryz.call38
noncomputable def e39 : Ent Tryz.prog 9 := .of 100000 39 mixed_ Tryz.func39 Tryz.call39
noncomputable def e42 : Ent Tryz.prog 9 := .of 100000 42 mixed_ Tryz.func42 Tryz.call42
noncomputable def e44 : Ent Tryz.prog 9 := .of 100000 44 mixed_ Tryz.func44 Tryz.call44
noncomputable def e45 : Ent Tryz.prog 9 := .of 100000 45 mixed_ Tryz.func45 Tryz.call45
noncomputable def e46 : Ent Tryz.prog 9 := .of 100000 46 mixed_ Tryz.func46 Tryz.call46
noncomputable def e47 : Ent Tryz.prog 9 := .of 100000 47 mixed_ Tryz.func47 Tryz.call47
noncomputable def e48 : Ent Tryz.prog 9 := .of 100000 48 mixed_ Tryz.func48 Tryz.call48
noncomputable def e49 : Ent Tryz.prog 9 := .of 100000 49 mixed_ Tryz.func49 Tryz.call49
noncomputable def e50 : Ent Tryz.prog 9 := .of 100000 50 mixed_ Tryz.func50 Tryz.call50
noncomputable def e51 : Ent Tryz.prog 9 := .of 100000 51 mixed_ Tryz.func51 Tryz.call51
noncomputable def e52 : Ent Tryz.prog 9 := .of 100000 52 mixed_ Tryz.func52 Tryz.call52
noncomputable def e53 : Ent Tryz.prog 9 := .of 100000 53 mixed_ Tryz.func53 Tryz.call53
noncomputable def e54 : Ent Tryz.prog 9 := .of 100000 54 mixed_ Tryz.func54 Tryz.call54
noncomputable def e55 : Ent Tryz.prog 9 := .of 100000 55 mixed_ Tryz.func55 Tryz.call55
noncomputable def e56 : Ent Tryz.prog 9 := .of 100000 56 mixed_ Tryz.func56 Tryz.call56
noncomputable def e57 : Ent Tryz.prog 9 := .of 100000 57 mixed_ Tryz.func57 Tryz.call57
noncomputable def e58 : Ent Tryz.prog 9 := .of 100000 58 mixed_ Tryz.func58 Tryz.call58
noncomputable def e59 : Ent Tryz.prog 9 := .of 100000 59 mixed_ Tryz.func59 Tryz.call59
noncomputable def e60 : Ent Tryz.prog 9 := .of 100000 60 mixed_ Tryz.func60 Tryz.call60
noncomputable def e61 : Ent Tryz.prog 9 := .of 100000 61 mixed_ Tryz.func61 Tryz.call61
noncomputable def e62 : Ent Tryz.prog 9 := .of 100000 62 mixed_ Tryz.func62 Tryz.call62
noncomputable def e63 : Ent Tryz.prog 9 := .of 100000 63 mixed_ Tryz.func63 Tryz.call63
noncomputable def e64 : Ent Tryz.prog 9 := .of 100000 64 mixed_ Tryz.func64 Tryz.call64
noncomputable def e65 : Ent Tryz.prog 9 := .of 100000 65 mixed_ Tryz.func65 Tryz.call65
noncomputable def e66 : Ent Tryz.prog 9 := .of 100000 66 mixed_ Tryz.func66 Tryz.call66
noncomputable def e67 : Ent Tryz.prog 9 := .of 100000 67 mixed_ Tryz.func67 Tryz.call67
noncomputable def e68 : Ent Tryz.prog 9 := .of 100000 68 mixed_ Tryz.func68 Tryz.call68
noncomputable def e69 : Ent Tryz.prog 9 := .of 100000 69 mixed_ Tryz.func69 Tryz.call69
noncomputable def e70 : Ent Tryz.prog 9 := .of 100000 70 mixed_ Tryz.func70 Tryz.call70
noncomputable def e71 : Ent Tryz.prog 9 := .of 100000 71 mixed_ Tryz.func71 Tryz.call71
noncomputable def e72 : Ent Tryz.prog 9 := .of 100000 72 mixed_ Tryz.func72 Tryz.call72
noncomputable def e73 : Ent Tryz.prog 9 := .of 100000 73 mixed_ Tryz.func73 Tryz.call73
noncomputable def e74 : Ent Tryz.prog 9 := .of 100000 74 mixed_ Tryz.func74 Tryz.call74
noncomputable def e75 : Ent Tryz.prog 9 := .of 100000 75 mixed_ Tryz.func75 Tryz.call75
noncomputable def e76 : Ent Tryz.prog 9 := .of 100000 76 mixed_ Tryz.func76 Tryz.call76
noncomputable def e77 : Ent Tryz.prog 9 := .of 100000 77 mixed_ Tryz.func77 Tryz.call77
noncomputable def e78 : Ent Tryz.prog 9 := .of 100000 78 mixed_ Tryz.func78 Tryz.call78
noncomputable def e79 : Ent Tryz.prog 9 := .of 100000 79 mixed_ Tryz.func79 Tryz.call79
noncomputable def e80 : Ent Tryz.prog 9 := .of 100000 80 mixed_ Tryz.func80 Tryz.call80
noncomputable def e81 : Ent Tryz.prog 9 := .of 100000 81 mixed_ Tryz.func81 Tryz.call81
noncomputable def e82 : Ent Tryz.prog 9 := .of 100000 82 mixed_ Tryz.func82 Tryz.call82
noncomputable def e83 : Ent Tryz.prog 9 := .of 100000 83 mixed_ Tryz.func83 Tryz.call83
noncomputable def e84 : Ent Tryz.prog 9 := .of 100000 84 mixed_ Tryz.func84 Tryz.call84
noncomputable def e85 : Ent Tryz.prog 9 := .of 100000 85 mixed_ Tryz.func85 Tryz.call85
noncomputable def e90 : Ent Tryz.prog 9 := .of 100000 90 mixed_ Tryz.func90 Tryz.call90
noncomputable def e92 : Ent Tryz.prog 9 := .of 100000 92 mixed_ Tryz.func92 Tryz.call92
noncomputable def e93 : Ent Tryz.prog 9 := .of 100000 93 mixed_ Tryz.func93 Tryz.call93
noncomputable def e94 : Ent Tryz.prog 9 := .of 100000 94 mixed_ Tryz.func94 Tryz.call94
noncomputable def e95 : Ent Tryz.prog 9 := .of 100000 95 mixed_ Tryz.func95 Tryz.call95
noncomputable def e96 : Ent Tryz.prog 9 := .of 100000 96 mixed_ Tryz.func96 Tryz.call96
noncomputable def e97 : Ent Tryz.prog 9 := .of 100000 97 mixed_ Tryz.func97 Tryz.call97
noncomputable def e98 : Ent Tryz.prog 9 := .of 100000 98 mixed_ Tryz.func98 Tryz.call98
noncomputable def e99 : Ent Tryz.prog 9 := .of 100000 99 mixed_ Tryz.func99 Tryz.call99
noncomputable def e100 : Ent Tryz.prog 9 := .of 100000 100 mixed_ Tryz.func100 Tryz.call100
noncomputable def e101 : Ent Tryz.prog 9 := .of 100000 101 mixed_ Tryz.func101 Tryz.call101
noncomputable def e102 : Ent Tryz.prog 9 := .of 100000 102 mixed_ Tryz.func102 Tryz.call102
noncomputable def e103 : Ent Tryz.prog 9 := .of 100000 103 mixed_ Tryz.func103 Tryz.call103
noncomputable def e104 : Ent Tryz.prog 9 := .of 100000 104 mixed_ Tryz.func104 Tryz.call104
noncomputable def e105 : Ent Tryz.prog 9 := .of 100000 105 mixed_ Tryz.func105 Tryz.call105
noncomputable def e106 : Ent Tryz.prog 9 := .of 100000 106 mixed_ Tryz.func106 Tryz.call106
noncomputable def e107 : Ent Tryz.prog 9 := .of 100000 107 mixed_ Tryz.func107 Tryz.call107
noncomputable def e108 : Ent Tryz.prog 9 := .of 100000 108 mixed_ Tryz.func108 Tryz.call108
noncomputable def e109 : Ent Tryz.prog 9 := .of 100000 109 mixed_ Tryz.func109 Tryz.call109
noncomputable def e110 : Ent Tryz.prog 9 := .of 100000 110 mixed_ Tryz.func110 Tryz.call110
noncomputable def e111 : Ent Tryz.prog 9 := .of 100000 111 mixed_ Tryz.func111 Tryz.call111
noncomputable def e113 : Ent Tryz.prog 9 := .of 100000 113 mixed_ Tryz.func113 Tryz.call113
noncomputable def e114 : Ent Tryz.prog 9 := .of 100000 114 mixed_ Tryz.func114 Tryz.call114
noncomputable def e115 : Ent Tryz.prog 9 := .of 100000 115 mixed_ Tryz.func115 Tryz.call115
noncomputable def e116 : Ent Tryz.prog 9 := .of 100000 116 mixed_ Tryz.func116 Tryz.call116
noncomputable def e117 : Ent Tryz.prog 9 := .of 100000 117 mixed_ Tryz.func117 Tryz.call117
noncomputable def e118 : Ent Tryz.prog 9 := .of 100000 118 mixed_ Tryz.func118 Tryz.call118
noncomputable def e119 : Ent Tryz.prog 9 := .of 100000 119 mixed_ Tryz.func119 Tryz.call119
noncomputable def e120 : Ent Tryz.prog 9 := .of 100000 120 mixed_ Tryz.func120 Tryz.call120
noncomputable def e121 : Ent Tryz.prog 9 := .of 100000 121 mixed_ Tryz.func121 Tryz.call121
noncomputable def e122 : Ent Tryz.prog 9 := .of 100000 122 mixed_ Tryz.func122 Tryz.call122
noncomputable def e124 : Ent Tryz.prog 9 := .of 100000 124 mixed_ Tryz.func124 Tryz.call124
noncomputable def e125 : Ent Tryz.prog 9 := .of 100000 125 mixed_ Tryz.func125 Tryz.call125
noncomputable def e126 : Ent Tryz.prog 9 := .of 100000 126 mixed_ Tryz.func126 Tryz.call126
noncomputable def e127 : Ent Tryz.prog 9 := .of 100000 127 mixed_ Tryz.func127 Tryz.call127
noncomputable def e128 : Ent Tryz.prog 9 := .of 100000 128 mixed_ Tryz.func128 Tryz.call128
noncomputable def e131 : Ent Tryz.prog 9 := .of 100000 131 mixed_ Tryz.func131 Tryz.call131
noncomputable def e132 : Ent Tryz.prog 9 := .of 100000 132 mixed_ Tryz.func132 Tryz.call132
noncomputable def e133 : Ent Tryz.prog 9 := .of 100000 133 mixed_ Tryz.func133 Tryz.call133
noncomputable def e139 : Ent Tryz.prog 9 := .of 100000 139 mixed_ Tryz.func139 Tryz.call139
noncomputable def e140 : Ent Tryz.prog 9 := .of 100000 140 mixed_ Tryz.func140 Tryz.call140
noncomputable def e141 : Ent Tryz.prog 9 := .of 100000 141 mixed_ Tryz.func141 Tryz.call141
noncomputable def e142 : Ent Tryz.prog 9 := .of 100000 142 mixed_ Tryz.func142 Tryz.call142
noncomputable def e143 : Ent Tryz.prog 9 := .of 100000 143 mixed_ Tryz.func143 Tryz.call143
noncomputable def e144 : Ent Tryz.prog 9 := .of 100000 144 mixed_ Tryz.func144 Tryz.call144
noncomputable def e145 : Ent Tryz.prog 9 := .of 100000 145 mixed_ Tryz.func145 Tryz.call145
noncomputable def e146 : Ent Tryz.prog 9 := .of 100000 146 mixed_ Tryz.func146 Tryz.call146
noncomputable def e147 : Ent Tryz.prog 9 := .of 100000 147 mixed_ Tryz.func147 Tryz.call147
noncomputable def e148 : Ent Tryz.prog 9 := .of 100000 148 mixed_ Tryz.func148 Tryz.call148
noncomputable def e149 : Ent Tryz.prog 9 := .of 100000 149 mixed_ Tryz.func149 Tryz.call149
noncomputable def e150 : Ent Tryz.prog 9 := .of 100000 150 mixed_ Tryz.func150 Tryz.call150
noncomputable def e151 : Ent Tryz.prog 9 := .of 100000 151 mixed_ Tryz.func151 Tryz.call151
noncomputable def e152 : Ent Tryz.prog 9 := .of 100000 152 mixed_ Tryz.func152 Tryz.call152
noncomputable def e157 : Ent Tryz.prog 9 := .of 100000 157 mixed_ Tryz.func157 Tryz.call157
noncomputable def e158 : Ent Tryz.prog 9 := .of 100000 158 mixed_ Tryz.func158 Tryz.call158
noncomputable def e159 : Ent Tryz.prog 9 := .of 100000 159 mixed_ Tryz.func159 Tryz.call159
noncomputable def e160 : Ent Tryz.prog 9 := .of 100000 160 mixed_ Tryz.func160 Tryz.call160
noncomputable def e161 : Ent Tryz.prog 9 := .of 100000 161 mixed_ Tryz.func161 Tryz.call161
noncomputable def e162 : Ent Tryz.prog 9 := .of 100000 162 mixed_ Tryz.func162 Tryz.call162
noncomputable def e163 : Ent Tryz.prog 9 := .of 100000 163 mixed_ Tryz.func163 Tryz.call163
noncomputable def e164 : Ent Tryz.prog 9 := .of 100000 164 mixed_ Tryz.func164 Tryz.call164
noncomputable def e165 : Ent Tryz.prog 9 := .of 100000 165 mixed_ Tryz.func165 Tryz.call165
noncomputable def e166 : Ent Tryz.prog 9 := .of 100000 166 mixed_ Tryz.func166 Tryz.call166
noncomputable def e167 : Ent Tryz.prog 9 := .of 100000 167 mixed_ Tryz.func167 Tryz.call167
noncomputable def e168 : Ent Tryz.prog 9 := .of 100000 168 mixed_ Tryz.func168 Tryz.call168
noncomputable def e169 : Ent Tryz.prog 9 := .of 100000 169 mixed_ Tryz.func169 Tryz.call169
noncomputable def e173 : Ent Tryz.prog 9 := .of 100000 173 mixed_ Tryz.func173 Tryz.call173
noncomputable def e174 : Ent Tryz.prog 9 := .of 100000 174 mixed_ Tryz.func174 Tryz.call174
noncomputable def e175 : Ent Tryz.prog 9 := .of 100000 175 mixed_ Tryz.func175 Tryz.call175
noncomputable def e176 : Ent Tryz.prog 9 := .of 100000 176 mixed_ Tryz.func176 Tryz.call176
noncomputable def e177 : Ent Tryz.prog 9 := .of 100000 177 mixed_ Tryz.func177 Tryz.call177
noncomputable def e181 : Ent Tryz.prog 9 := .of 100000 181 mixed_ Tryz.func181 Tryz.call181
noncomputable def e182 : Ent Tryz.prog 9 := .of 100000 182 mixed_ Tryz.func182 Tryz.call182
noncomputable def e183 : Ent Tryz.prog 9 := .of 100000 183 mixed_ Tryz.func183 Tryz.call183
noncomputable def e184 : Ent Tryz.prog 9 := .of 100000 184 mixed_ Tryz.func184 Tryz.call184
noncomputable def e185 : Ent Tryz.prog 9 := .of 100000 185 mixed_ Tryz.func185 Tryz.call185
noncomputable def e186 : Ent Tryz.prog 9 := .of 100000 186 mixed_ Tryz.func186 Tryz.call186
noncomputable def e187 : Ent Tryz.prog 9 := .of 100000 187 mixed_ Tryz.func187 Tryz.call187
noncomputable def e188 : Ent Tryz.prog 9 := .of 100000 188 mixed_ Tryz.func188 Tryz.call188
noncomputable def e189 : Ent Tryz.prog 9 := .of 100000 189 mixed_ Tryz.func189 Tryz.call189
noncomputable def e190 : Ent Tryz.prog 9 := .of 100000 190 mixed_ Tryz.func190 Tryz.call190
noncomputable def e191 : Ent Tryz.prog 9 := .of 100000 191 mixed_ Tryz.func191 Tryz.call191
noncomputable def e192 : Ent Tryz.prog 9 := .of 100000 192 mixed_ Tryz.func192 Tryz.call192
noncomputable def e193 : Ent Tryz.prog 9 := .of 100000 193 mixed_ Tryz.func193 Tryz.call193
noncomputable def e194 : Ent Tryz.prog 9 := .of 100000 194 mixed_ Tryz.func194 Tryz.call194
noncomputable def e195 : Ent Tryz.prog 9 := .of 100000 195 mixed_ Tryz.func195 Tryz.call195
noncomputable def e196 : Ent Tryz.prog 9 := .of 100000 196 mixed_ Tryz.func196 Tryz.call196
noncomputable def e197 : Ent Tryz.prog 9 := .of 100000 197 mixed_ Tryz.func197 Tryz.call197
noncomputable def e201 : Ent Tryz.prog 9 := .of 100000 201 mixed_ Tryz.func201 Tryz.call201
noncomputable def e202 : Ent Tryz.prog 9 := .of 100000 202 mixed_ Tryz.func202 Tryz.call202
noncomputable def e203 : Ent Tryz.prog 9 := .of 100000 203 mixed_ Tryz.func203 Tryz.call203
noncomputable def e204 : Ent Tryz.prog 9 := .of 100000 204 mixed_ Tryz.func204 Tryz.call204
noncomputable def e205 : Ent Tryz.prog 9 := .of 100000 205 mixed_ Tryz.func205 Tryz.call205
noncomputable def e206 : Ent Tryz.prog 9 := .of 100000 206 mixed_ Tryz.func206 Tryz.call206
noncomputable def e208 : Ent Tryz.prog 9 := .of 100000 208 mixed_ Tryz.func208 Tryz.call208
noncomputable def e212 : Ent Tryz.prog 9 := .of 100000 212 mixed_ Tryz.func212 Tryz.call212
noncomputable def e216 : Ent Tryz.prog 9 := .of 100000 216 mixed_ Tryz.func216 Tryz.call216
noncomputable def e219 : Ent Tryz.prog 9 := entIndexByte (f := 219) Tryz.func219 (by kernel_rfl) (by kernel_rfl) (by kernel_rfl) (by kernel_rfl)
noncomputable def e220 : Ent Tryz.prog 9 := .of 100000 220 mixed_ Tryz.func220 Tryz.call220
noncomputable def e221 : Ent Tryz.prog 9 := .of 100000 221 mixed_ Tryz.func221 Tryz.call221
noncomputable def e222 : Ent Tryz.prog 9 := .of 100000 222 mixed_ Tryz.func222 Tryz.call222
noncomputable def e223 : Ent Tryz.prog 9 := .of 100000 223 mixed_ Tryz.func223 Tryz.call223
noncomputable def e225 : Ent Tryz.prog 9 := .of 100000 225 mixed_ Tryz.func225 Tryz.call225
noncomputable def e226 : Ent Tryz.prog 9 := .of 100000 226 mixed_ Tryz.func226 Tryz.call226
noncomputable def e227 : Ent Tryz.prog 9 := entMapsClone (f := 227) Tryz.func227 (by kernel_rfl) (by kernel_rfl) (by kernel_rfl) (by kernel_rfl)
noncomputable def e228 : Ent Tryz.prog 9 := .of 100000 228 mixed_ Tryz.func228 Tryz.call228
noncomputable def e229 : Ent Tryz.prog 9 := .of 100000 229 mixed_ Tryz.func229 Tryz.call229
noncomputable def e230 : Ent Tryz.prog 9 := .of 100000 230 mixed_ Tryz.func230 Tryz.call230
noncomputable def e231 : Ent Tryz.prog 9 := .of 100000 231 mixed_ Tryz.func231 Tryz.call231
noncomputable def e232 : Ent Tryz.prog 9 := entNoEscape (f := 232) Tryz.func232 (by kernel_rfl) (by kernel_rfl) (by kernel_rfl) (by kernel_rfl)
noncomputable def e233 : Ent Tryz.prog 9 := .of 100000 233 mixed_ Tryz.func233 Tryz.call233
noncomputable def e241 : Ent Tryz.prog 9 := .of 100000 241 mixed_ Tryz.func241 Tryz.call241
noncomputable def e242 : Ent Tryz.prog 9 := .of 100000 242 mixed_ Tryz.func242 Tryz.call242
noncomputable def e243 : Ent Tryz.prog 9 := .of 100000 243 mixed_ Tryz.func243 Tryz.call243
noncomputable def e244 : Ent Tryz.prog 9 := .of 100000 244 mixed_ Tryz.func244 Tryz.call244
noncomputable def e246 : Ent Tryz.prog 9 := .of 100000 246 mixed_ Tryz.func246 Tryz.call246
noncomputable def e247 : Ent Tryz.prog 9 := .of 100000 247 mixed_ Tryz.func247 Tryz.call247
noncomputable def e251 : Ent Tryz.prog 9 := .of 100000 251 mixed_ Tryz.func251 Tryz.call251
noncomputable def e252 : Ent Tryz.prog 9 := .of 100000 252 mixed_ Tryz.func252 Tryz.call252
noncomputable def e253 : Ent Tryz.prog 9 := .of 100000 253 mixed_ Tryz.func253 Tryz.call253
noncomputable def e261 : Ent Tryz.prog 9 := .of 100000 261 mixed_ Tryz.func261 Tryz.call261
noncomputable def tab0 : FTree Tryz.prog 9 := .node (.node (.node (.node (.node (.node (.node (.node (.leaf) (e6) (.leaf)) (e7) (.node (.leaf) (e9) (.leaf))) (e10) (.node (.node (.leaf) (e11) (.leaf)) (e13) (.leaf))) (e16) (.node (.node (.node (.leaf) (e17) (.leaf)) (e18) (.leaf)) (e19) (.node (.node (.leaf) (e20) (.leaf)) (e21) (.leaf)))) (e22) (.node (.node (.node (.node (.leaf) (e23) (.leaf)) (e24) (.leaf)) (e25) (.node (.node (.leaf) (e26) (.leaf)) (e27) (.leaf))) (e28) (.node (.node (.node (.leaf) (e29) (.leaf)) (e30) (.leaf)) (e31) (.node (.node (.leaf) (e32) (.leaf)) (e33) (.leaf))))) (e34) (.node (.node (.node (.node (.node (.leaf) (e35) (.leaf)) (e36) (.leaf)) (e37) (.node (.node (.leaf) (e38) (.leaf)) (e39) (.leaf))) (e42) (.node (.node (.node (.leaf) (e44) (.leaf)) (e45) (.leaf)) (e46) (.node (.node (.leaf) (e47) (.leaf)) (e48) (.leaf)))) (e49) (.node (.node (.node (.node (.leaf) (e50) (.leaf)) (e51) (.leaf)) (e52) (.node (.node (.leaf) (e53) (.leaf)) (e54) (.leaf))) (e55) (.node (.node (.node (.leaf) (e56) (.leaf)) (e57) (.leaf)) (e58) (.node (.node (.leaf) (e59) (.leaf)) (e60) (.leaf)))))) (e61) (.node (.node (.node (.node (.node (.node (.leaf) (e62) (.leaf)) (e63) (.node (.leaf) (e64) (.leaf))) (e65) (.node (.node (.leaf) (e66) (.leaf)) (e67) (.leaf))) (e68) (.node (.node (.node (.leaf) (e69) (.leaf)) (e70) (.leaf)) (e71) (.node (.node (.leaf) (e72) (.leaf)) (e73) (.leaf)))) (e74) (.node (.node (.node (.node (.leaf) (e75) (.leaf)) (e76) (.leaf)) (e77) (.node (.node (.leaf) (e78) (.leaf)) (e79) (.leaf))) (e80) (.node (.node (.node (.leaf) (e81) (.leaf)) (e82) (.leaf)) (e83) (.node (.node (.leaf) (e84) (.leaf)) (e85) (.leaf))))) (e90) (.node (.node (.node (.node (.node (.leaf) (e92) (.leaf)) (e93) (.leaf)) (e94) (.node (.node (.leaf) (e95) (.leaf)) (e96) (.leaf))) (e97) (.node (.node (.node (.leaf) (e98) (.leaf)) (e99) (.leaf)) (e100) (.node (.node (.leaf) (e101) (.leaf)) (e102) (.leaf)))) (e103) (.node (.node (.node (.node (.leaf) (e104) (.leaf)) (e105) (.leaf)) (e106) (.node (.node (.leaf) (e107) (.leaf)) (e108) (.leaf))) (e109) (.node (.node (.node (.leaf) (e110) (.leaf)) (e111) (.leaf)) (e113) (.node (.node (.leaf) (e114) (.leaf)) (e115) (.leaf))))))) (e116) (.node (.node (.node (.node (.node (.node (.node (.leaf) (e117) (.leaf)) (e118) (.node (.leaf) (e119) (.leaf))) (e120) (.node (.node (.leaf) (e121) (.leaf)) (e122) (.leaf))) (e124) (.node (.node (.node (.leaf) (e125) (.leaf)) (e126) (.leaf)) (e127) (.node (.node (.leaf) (e128) (.leaf)) (e131) (.leaf)))) (e132) (.node (.node (.node (.node (.leaf) (e133) (.leaf)) (e139) (.leaf)) (e140) (.node (.node (.leaf) (e141) (.leaf)) (e142) (.leaf))) (e143) (.node (.node (.node (.leaf) (e144) (.leaf)) (e145) (.leaf)) (e146) (.node (.node (.leaf) (e147) (.leaf)) (e148) (.leaf))))) (e149) (.node (.node (.node (.node (.node (.leaf) (e150) (.leaf)) (e151) (.leaf)) (e152) (.node (.node (.leaf) (e157) (.leaf)) (e158) (.leaf))) (e159) (.node (.node (.node (.leaf) (e160) (.leaf)) (e161) (.leaf)) (e162) (.node (.node (.leaf) (e163) (.leaf)) (e164) (.leaf)))) (e165) (.node (.node (.node (.node (.leaf) (e166) (.leaf)) (e167) (.leaf)) (e168) (.node (.node (.leaf) (e169) (.leaf)) (e173) (.leaf))) (e174) (.node (.node (.node (.leaf) (e175) (.leaf)) (e176) (.leaf)) (e177) (.node (.node (.leaf) (e181) (.leaf)) (e182) (.leaf)))))) (e183) (.node (.node (.node (.node (.node (.node (.leaf) (e184) (.leaf)) (e185) (.leaf)) (e186) (.node (.node (.leaf) (e187) (.leaf)) (e188) (.leaf))) (e189) (.node (.node (.node (.leaf) (e190) (.leaf)) (e191) (.leaf)) (e192) (.node (.node (.leaf) (e193) (.leaf)) (e194) (.leaf)))) (e195) (.node (.node (.node (.node (.leaf) (e196) (.leaf)) (e197) (.leaf)) (e201) (.node (.node (.leaf) (e202) (.leaf)) (e203) (.leaf))) (e204) (.node (.node (.node (.leaf) (e205) (.leaf)) (e206) (.leaf)) (e208) (.node (.node (.leaf) (e212) (.leaf)) (e216) (.leaf))))) (e219) (.node (.node (.node (.node (.node (.leaf) (e220) (.leaf)) (e221) (.leaf)) (e222) (.node (.node (.leaf) (e223) (.leaf)) (e225) (.leaf))) (e226) (.node (.node (.node (.leaf) (e227) (.leaf)) (e228) (.leaf)) (e229) (.node (.node (.leaf) (e230) (.leaf)) (e231) (.leaf)))) (e232) (.node (.node (.node (.node (.leaf) (e233) (.leaf)) (e241) (.leaf)) (e242) (.node (.node (.leaf) (e243) (.leaf)) (e244) (.leaf))) (e246) (.node (.node (.node (.leaf) (e247) (.leaf)) (e251) (.leaf)) (e252) (.node (.node (.leaf) (e253) (.leaf)) (e261) (.leaf)))))))
end Go.Proofs.YtnfokaecobddkaaGreatDoor
end
section
/- The closed run: known calls of tidewaiter/text.May. -/
namespace Go.Proofs.YtnfokaecobddkaaGreatDoor
open Go.Proofs.YtnfokaecobddkaaGreatDoor.Clo Go.RowKit
set_option maxRecDepth 100000
set_option maxHeartbeats 0
noncomputable def m1 : MTree := .node (.node (.node (.node (.node (.node (.leaf) 1000035 (.cons (.i .i64 32) (.nil)) (.b true) (.leaf)) 1000042 (.cons (.i .i64 39) (.nil)) (.b true) (.leaf)) 1000048 (.cons (.i .i64 45) (.nil)) (.b true) (.node (.node (.leaf) 1000050 (.cons (.i .i64 47) (.nil)) (.b true) (.leaf)) 1000051 (.cons (.i .i64 48) (.nil)) (.b true) (.leaf))) 1000052 (.cons (.i .i64 49) (.nil)) (.b true) (.node (.node (.node (.leaf) 1000053 (.cons (.i .i64 50) (.nil)) (.b true) (.leaf)) 1000054 (.cons (.i .i64 51) (.nil)) (.b true) (.leaf)) 1000056 (.cons (.i .i64 53) (.nil)) (.b true) (.node (.leaf) 1000058 (.cons (.i .i64 55) (.nil)) (.b true) (.leaf)))) 1000061 (.cons (.i .i64 58) (.nil)) (.b true) (.node (.node (.node (.node (.leaf) 1000063 (.cons (.i .i64 60) (.nil)) (.b true) (.leaf)) 1000064 (.cons (.i .i64 61) (.nil)) (.b true) (.leaf)) 1000065 (.cons (.i .i64 62) (.nil)) (.b true) (.node (.node (.leaf) 1000067 (.cons (.i .i64 64) (.nil)) (.b true) (.leaf)) 1000085 (.cons (.i .i64 82) (.nil)) (.b true) (.leaf))) 1000088 (.cons (.i .i64 85) (.nil)) (.b true) (.node (.node (.node (.leaf) 1000089 (.cons (.i .i64 86) (.nil)) (.b true) (.leaf)) 1000100 (.cons (.i .i64 97) (.nil)) (.b true) (.leaf)) 1000101 (.cons (.i .i64 98) (.nil)) (.b true) (.node (.leaf) 1000102 (.cons (.i .i64 99) (.nil)) (.b true) (.leaf))))) 1000103 (.cons (.i .i64 100) (.nil)) (.b true) (.node (.node (.node (.node (.node (.leaf) 1000104 (.cons (.i .i64 101) (.nil)) (.b true) (.leaf)) 1000105 (.cons (.i .i64 102) (.nil)) (.b true) (.leaf)) 1000106 (.cons (.i .i64 103) (.nil)) (.b true) (.node (.node (.leaf) 1000107 (.cons (.i .i64 104) (.nil)) (.b true) (.leaf)) 1000108 (.cons (.i .i64 105) (.nil)) (.b true) (.leaf))) 1000109 (.cons (.i .i64 106) (.nil)) (.b true) (.node (.node (.node (.leaf) 1000111 (.cons (.i .i64 108) (.nil)) (.b true) (.leaf)) 1000112 (.cons (.i .i64 109) (.nil)) (.b true) (.leaf)) 1000113 (.cons (.i .i64 110) (.nil)) (.b true) (.node (.leaf) 1000114 (.cons (.i .i64 111) (.nil)) (.b true) (.leaf)))) 1000115 (.cons (.i .i64 112) (.nil)) (.b true) (.node (.node (.node (.node (.leaf) 1000116 (.cons (.i .i64 113) (.nil)) (.b true) (.leaf)) 1000117 (.cons (.i .i64 114) (.nil)) (.b true) (.leaf)) 1000118 (.cons (.i .i64 115) (.nil)) (.b true) (.node (.leaf) 1000119 (.cons (.i .i64 116) (.nil)) (.b true) (.leaf))) 1000120 (.cons (.i .i64 117) (.nil)) (.b true) (.node (.node (.node (.leaf) 1000121 (.cons (.i .i64 118) (.nil)) (.b true) (.leaf)) 1000123 (.cons (.i .i64 120) (.nil)) (.b true) (.leaf)) 1000124 (.cons (.i .i64 121) (.nil)) (.b true) (.node (.leaf) 1000125 (.cons (.i .i64 122) (.nil)) (.b true) (.leaf)))))
theorem k1 : m1.all (known tab0 100 124) = true := by kernel_rfl
noncomputable def g1 : Ent Tryz.prog 9 := e124.memo m1 (by kernel_rfl) Tryz.call124 k1
noncomputable def tab1 : FTree Tryz.prog 9 := .node (.node (.node (.node (.node (.node (.node (.node (.leaf) (e6) (.leaf)) (e7) (.node (.leaf) (e9) (.leaf))) (e10) (.node (.node (.leaf) (e11) (.leaf)) (e13) (.leaf))) (e16) (.node (.node (.node (.leaf) (e17) (.leaf)) (e18) (.leaf)) (e19) (.node (.node (.leaf) (e20) (.leaf)) (e21) (.leaf)))) (e22) (.node (.node (.node (.node (.leaf) (e23) (.leaf)) (e24) (.leaf)) (e25) (.node (.node (.leaf) (e26) (.leaf)) (e27) (.leaf))) (e28) (.node (.node (.node (.leaf) (e29) (.leaf)) (e30) (.leaf)) (e31) (.node (.node (.leaf) (e32) (.leaf)) (e33) (.leaf))))) (e34) (.node (.node (.node (.node (.node (.leaf) (e35) (.leaf)) (e36) (.leaf)) (e37) (.node (.node (.leaf) (e38) (.leaf)) (e39) (.leaf))) (e42) (.node (.node (.node (.leaf) (e44) (.leaf)) (e45) (.leaf)) (e46) (.node (.node (.leaf) (e47) (.leaf)) (e48) (.leaf)))) (e49) (.node (.node (.node (.node (.leaf) (e50) (.leaf)) (e51) (.leaf)) (e52) (.node (.node (.leaf) (e53) (.leaf)) (e54) (.leaf))) (e55) (.node (.node (.node (.leaf) (e56) (.leaf)) (e57) (.leaf)) (e58) (.node (.node (.leaf) (e59) (.leaf)) (e60) (.leaf)))))) (e61) (.node (.node (.node (.node (.node (.node (.leaf) (e62) (.leaf)) (e63) (.node (.leaf) (e64) (.leaf))) (e65) (.node (.node (.leaf) (e66) (.leaf)) (e67) (.leaf))) (e68) (.node (.node (.node (.leaf) (e69) (.leaf)) (e70) (.leaf)) (e71) (.node (.node (.leaf) (e72) (.leaf)) (e73) (.leaf)))) (e74) (.node (.node (.node (.node (.leaf) (e75) (.leaf)) (e76) (.leaf)) (e77) (.node (.node (.leaf) (e78) (.leaf)) (e79) (.leaf))) (e80) (.node (.node (.node (.leaf) (e81) (.leaf)) (e82) (.leaf)) (e83) (.node (.node (.leaf) (e84) (.leaf)) (e85) (.leaf))))) (e90) (.node (.node (.node (.node (.node (.leaf) (e92) (.leaf)) (e93) (.leaf)) (e94) (.node (.node (.leaf) (e95) (.leaf)) (e96) (.leaf))) (e97) (.node (.node (.node (.leaf) (e98) (.leaf)) (e99) (.leaf)) (e100) (.node (.node (.leaf) (e101) (.leaf)) (e102) (.leaf)))) (e103) (.node (.node (.node (.node (.leaf) (e104) (.leaf)) (e105) (.leaf)) (e106) (.node (.node (.leaf) (e107) (.leaf)) (e108) (.leaf))) (e109) (.node (.node (.node (.leaf) (e110) (.leaf)) (e111) (.leaf)) (e113) (.node (.node (.leaf) (e114) (.leaf)) (e115) (.leaf))))))) (e116) (.node (.node (.node (.node (.node (.node (.node (.leaf) (e117) (.leaf)) (e118) (.node (.leaf) (e119) (.leaf))) (e120) (.node (.node (.leaf) (e121) (.leaf)) (e122) (.leaf))) (g1) (.node (.node (.node (.leaf) (e125) (.leaf)) (e126) (.leaf)) (e127) (.node (.node (.leaf) (e128) (.leaf)) (e131) (.leaf)))) (e132) (.node (.node (.node (.node (.leaf) (e133) (.leaf)) (e139) (.leaf)) (e140) (.node (.node (.leaf) (e141) (.leaf)) (e142) (.leaf))) (e143) (.node (.node (.node (.leaf) (e144) (.leaf)) (e145) (.leaf)) (e146) (.node (.node (.leaf) (e147) (.leaf)) (e148) (.leaf))))) (e149) (.node (.node (.node (.node (.node (.leaf) (e150) (.leaf)) (e151) (.leaf)) (e152) (.node (.node (.leaf) (e157) (.leaf)) (e158) (.leaf))) (e159) (.node (.node (.node (.leaf) (e160) (.leaf)) (e161) (.leaf)) (e162) (.node (.node (.leaf) (e163) (.leaf)) (e164) (.leaf)))) (e165) (.node (.node (.node (.node (.leaf) (e166) (.leaf)) (e167) (.leaf)) (e168) (.node (.node (.leaf) (e169) (.leaf)) (e173) (.leaf))) (e174) (.node (.node (.node (.leaf) (e175) (.leaf)) (e176) (.leaf)) (e177) (.node (.node (.leaf) (e181) (.leaf)) (e182) (.leaf)))))) (e183) (.node (.node (.node (.node (.node (.node (.leaf) (e184) (.leaf)) (e185) (.leaf)) (e186) (.node (.node (.leaf) (e187) (.leaf)) (e188) (.leaf))) (e189) (.node (.node (.node (.leaf) (e190) (.leaf)) (e191) (.leaf)) (e192) (.node (.node (.leaf) (e193) (.leaf)) (e194) (.leaf)))) (e195) (.node (.node (.node (.node (.leaf) (e196) (.leaf)) (e197) (.leaf)) (e201) (.node (.node (.leaf) (e202) (.leaf)) (e203) (.leaf))) (e204) (.node (.node (.node (.leaf) (e205) (.leaf)) (e206) (.leaf)) (e208) (.node (.node (.leaf) (e212) (.leaf)) (e216) (.leaf))))) (e219) (.node (.node (.node (.node (.node (.leaf) (e220) (.leaf)) (e221) (.leaf)) (e222) (.node (.node (.leaf) (e223) (.leaf)) (e225) (.leaf))) (e226) (.node (.node (.node (.leaf) (e227) (.leaf)) (e228) (.leaf)) (e229) (.node (.node (.leaf) (e230) (.leaf)) (e231) (.leaf)))) (e232) (.node (.node (.node (.node (.leaf) (e233) (.leaf)) (e241) (.leaf)) (e242) (.node (.node (.leaf) (e243) (.leaf)) (e244) (.leaf))) (e246) (.node (.node (.node (.leaf) (e247) (.leaf)) (e251) (.leaf)) (e252) (.node (.node (.leaf) (e253) (.leaf)) (e261) (.leaf)))))))
end Go.Proofs.YtnfokaecobddkaaGreatDoor
end
section
/- The closed run: known calls of tidewaiter/text.Check. -/
namespace Go.Proofs.YtnfokaecobddkaaGreatDoor
open Go.Proofs.YtnfokaecobddkaaGreatDoor.Clo Go.RowKit
set_option maxRecDepth 100000
set_option maxHeartbeats 0
noncomputable def m2 : MTree := .node (.node (.node (.node (.node (.node (.leaf) 2 (.cons (.s []) (.nil)) (.i .i64 0) (.leaf)) 564 (.cons (.s [49]) (.nil)) (.i .i64 0) (.leaf)) 566 (.cons (.s [51]) (.nil)) (.i .i64 0) (.node (.node (.leaf) 568 (.cons (.s [53]) (.nil)) (.i .i64 0) (.leaf)) 570 (.cons (.s [55]) (.nil)) (.i .i64 0) (.leaf))) 579 (.cons (.s [64]) (.nil)) (.i .i64 0) (.node (.node (.node (.leaf) 597 (.cons (.s [82]) (.nil)) (.i .i64 0) (.leaf)) 601 (.cons (.s [86]) (.nil)) (.i .i64 0) (.leaf)) 618 (.cons (.s [103]) (.nil)) (.i .i64 0) (.node (.leaf) 629 (.cons (.s [114]) (.nil)) (.i .i64 0) (.leaf)))) 632 (.cons (.s [117]) (.nil)) (.i .i64 0) (.node (.node (.node (.node (.leaf) 635 (.cons (.s [120]) (.nil)) (.i .i64 0) (.leaf)) 37330327 (.cons (.s [50,48,48]) (.nil)) (.i .i64 0) (.leaf)) 39646203 (.cons (.s [85,64,97]) (.nil)) (.i .i64 0) (.node (.node (.leaf) 40844613 (.cons (.s [103,101,116]) (.nil)) (.i .i64 0) (.leaf)) 41637201 (.cons (.s [115,101,116]) (.nil)) (.i .i64 0) (.leaf))) 41825820 (.cons (.s [118,64,97]) (.nil)) (.i .i64 0) (.node (.node (.node (.leaf) 10429360550 (.cons (.s [99,104,97,116]) (.nil)) (.i .i64 0) (.leaf)) 10616546742 (.cons (.s [110,111,110,101]) (.nil)) (.i .i64 0) (.leaf)) 2689241469745 (.cons (.s [101,114,114,111,114]) (.nil)) (.i .i64 0) (.node (.leaf) 2758191127230 (.cons (.s [117,64,97,47,114]) (.nil)) (.i .i64 0) (.leaf))))) 688818517247342 (.cons (.s [99,97,110,99,101,108]) (.nil)) (.i .i64 0) (.node (.node (.node (.node (.node (.leaf) 705653274347158 (.cons (.s [114,101,109,111,118,101]) (.nil)) (.i .i64 0) (.leaf)) 51588954559116314918533176199726 (.cons (.s [106,97,98,98,101,114,58,99,108,105,101,110,116]) (.nil)) (.i .i64 0) (.leaf)) 875701506936493885516472438932313399397 (.cons (.s [106,97,98,98,101,114,58,105,113,58,114,111,115,116,101,114]) (.nil)) (.i .i64 0) (.node (.node (.leaf) 322814058453948504721110504435775017302779335851303514628395123443846139655814 (.cons (.s [117,114,110,58,105,101,116,102,58,112,97,114,97,109,115,58,120,109,108,58,110,115,58,120,109,112,112,45,98,105,110,100]) (.nil)) (.i .i64 0) (.leaf)) 75477253690931143979204260135973156763214307181743315711407943037957276105819662 (.cons (.s [60,97,32,120,109,108,110,115,61,39,106,97,98,98,101,114,58,99,108,105,101,110,116,39,62,60,97,47,62,60,47,97,62]) (.nil)) (.i .i64 0) (.leaf))) 5479637256933985110599429320821975558282636994886185680286553463644051485880500103408 (.cons (.s [117,114,110,58,105,101,116,102,58,112,97,114,97,109,115,58,120,109,108,58,110,115,58,120,109,112,112,45,115,116,97,110,122,97,115]) (.nil)) (.i .i64 0) (.node (.node (.node (.leaf) 1436418785595549042837512969980747018362305112374872319514392496315324146419476275737728420218360376 (.cons (.s [60,97,32,120,109,108,110,115,61,39,106,97,98,98,101,114,58,99,108,105,101,110,116,39,62,60,105,113,32,105,100,61,39,49,39,47,62,60,47,97,62]) (.nil)) (.i .i64 0) (.leaf)) 6266334435600947856722531383994610407474559546866359310035751958672103167093868115457237367944711482157041984 (.cons (.s [60,97,32,120,109,108,110,115,61,39,106,97,98,98,101,114,58,99,108,105,101,110,116,39,62,60,105,113,32,116,121,112,101,61,39,103,101,116,39,47,62,60,47,97,62]) (.nil)) (.i .i64 0) (.leaf)) 1610447949949443599177690565686614874720961803544654342679188253403042920451999313379450676217517008844111011693 (.cons (.s [60,97,32,120,109,108,110,115,61,39,106,97,98,98,101,114,58,99,108,105,101,110,116,39,62,60,109,101,115,115,97,103,101,32,116,111,61,39,64,39,47,62,60,47,97,62]) (.nil)) (.i .i64 0) (.node (.leaf) 106368476646210800282087284173035225860444806162320874679617704949017581852934102649399337713593971497514845177504549 (.cons (.s [60,97,32,120,109,108,110,115,61,39,106,97,98,98,101,114,58,99,108,105,101,110,116,39,62,60,109,101,115,115,97,103,101,32,116,111,61,39,85,64,97,39,47,62,60,47,97,62]) (.nil)) (.i .i64 0) (.leaf)))) 27336698498076175672496432032470053046134315183716464792661750171897518536204064380917525340622593761103202282329685492 (.cons (.s [60,97,32,120,109,108,110,115,61,39,106,97,98,98,101,114,58,99,108,105,101,110,116,39,62,60,109,101,115,115,97,103,101,32,120,109,108,110,115,61,39,117,39,47,62,60,47,97,62]) (.nil)) (.i .i64 0) (.node (.node (.node (.node (.leaf) 27336698498076175672496432032470053046134315183716464792661750171897518536204064423194832067113781725340678916055259257 (.cons (.s [60,97,32,120,109,108,110,115,61,39,106,97,98,98,101,114,58,99,108,105,101,110,116,39,62,60,109,101,115,115,97,103,101,62,120,60,47,109,101,115,115,97,103,101,62,60,47,97,62]) (.nil)) (.i .i64 0) (.leaf)) 27336698498076175672496432032470053046134315183716464792661750172215851399513329604501243669957223592367041916361566455 (.cons (.s [60,97,32,120,109,108,110,115,61,39,106,97,98,98,101,114,58,99,108,105,101,110,116,39,62,60,112,114,101,115,101,110,99,101,32,116,121,112,101,61,39,120,39,47,62,60,47,97,62]) (.nil)) (.i .i64 0) (.leaf)) 733175424829003460526050243083872390544835756675113401359835708649590292031225951079641833007785656457775132798786387801666091001169452938146573977561912283568113623451657556 (.cons (.s [60,97,32,120,109,108,110,115,61,39,106,97,98,98,101,114,58,99,108,105,101,110,116,39,62,60,112,114,101,115,101,110,99,101,62,60,112,114,105,111,114,105,116,121,62,53,60,47,112,114,105,111,114,105,116,121,62,60,47,112,114,101,115,101,110,99,101,62,60,47,97,62]) (.nil)) (.i .i64 0) (.node (.node (.leaf) 48425503634530849564285092505446687523095856892634565046415788720596789198370442842859263428331234823379589746135429704279937081522280610328254104602666317278597109904461652575411 (.cons (.s [60,97,32,120,109,108,110,115,61,39,106,97,98,98,101,114,58,99,108,105,101,110,116,39,62,60,112,114,101,115,101,110,99,101,62,60,112,114,105,111,114,105,116,121,62,50,48,48,60,47,112,114,105,111,114,105,116,121,62,60,47,112,114,101,115,101,110,99,101,62,60,47,97,62]) (.nil)) (.i .i64 0) (.leaf)) 68245024832554224282986070034526368532677303773241450679338862705719454891784520526758256980969705404723160715366088326591981507920065927067201595034003507952852331140207379465184738084755560369066625481790130790776 (.cons (.s [60,97,32,120,109,108,110,115,61,39,106,97,98,98,101,114,58,99,108,105,101,110,116,39,62,60,105,113,32,116,121,112,101,61,39,103,101,116,39,32,105,100,61,39,49,39,62,60,113,117,101,114,121,32,120,109,108,110,115,61,39,106,97,98,98,101,114,58,105,113,58,114,111,115,116,101,114,39,47,62,60,47,105,113,62,60,47,97,62]) (.nil)) (.i .i64 0) (.leaf))) 68245024832554224282986070034526368532677303773241450679338862705719454891784520526758896180993696389166759586823149852294130476388038969110490906687012679213576550857533211032452910144807868658291229305812270390660 (.cons (.s [60,97,32,120,109,108,110,115,61,39,106,97,98,98,101,114,58,99,108,105,101,110,116,39,62,60,105,113,32,116,121,112,101,61,39,115,101,116,39,32,105,100,61,39,49,39,62,60,113,117,101,114,121,32,120,109,108,110,115,61,39,106,97,98,98,101,114,58,105,113,58,114,111,115,116,101,114,39,47,62,60,47,105,113,62,60,47,97,62]) (.nil)) (.i .i64 0) (.node (.node (.node (.leaf) 374226659358481847784614678130233737265461655619715587981737941791314831299783425729818576501098297749138526641172119662206491017016553075768470243630682987111032333605856859523431933135734428091958345027874480316666978620813422890974209802011946917 (.cons (.s [60,97,32,120,109,108,110,115,61,39,106,97,98,98,101,114,58,99,108,105,101,110,116,39,62,60,109,101,115,115,97,103,101,32,102,114,111,109,61,39,117,64,97,47,114,39,32,116,111,61,39,118,64,97,39,32,105,100,61,39,55,39,32,116,121,112,101,61,39,99,104,97,116,39,62,60,98,111,100,121,62,120,60,47,98,111,100,121,62,60,47,109,101,115,115,97,103,101,62,60,47,97,62]) (.nil)) (.i .i64 0) (.leaf)) 2891980094446486664135309388723236010848867998082935034571382679505253303361315697123092003334534744798844843322730396029576822967584474959854382547529085333463712674655963870671543717634509566763753483945217422156063607898470735876369622159292674771572930131269417037306102933438614452281078392918276852634966431714947 (.cons (.s [60,97,32,120,109,108,110,115,61,39,106,97,98,98,101,114,58,99,108,105,101,110,116,39,62,60,105,113,32,116,121,112,101,61,39,115,101,116,39,32,105,100,61,39,49,39,62,60,98,105,110,100,32,120,109,108,110,115,61,39,117,114,110,58,105,101,116,102,58,112,97,114,97,109,115,58,120,109,108,58,110,115,58,120,109,112,112,45,98,105,110,100,39,62,60,114,101,115,111,117,114,99,101,62,82,60,47,114,101,115,111,117,114,99,101,62,60,47,98,105,110,100,62,60,47,105,113,62,60,47,97,62]) (.nil)) (.i .i64 0) (.leaf)) 240100342377453729788344147888146022844716834789695909878140243684822626581727170180613971816104557956663727992848120703237751636366632899691393620942270001392859432535270079520183951213447179576517003668711148490010288673814238908911650312599753553957765659212442349976465716861557263737785968654516684953298564808590817912012587487211078497948092 (.cons (.s [60,97,32,120,109,108,110,115,61,39,106,97,98,98,101,114,58,99,108,105,101,110,116,39,62,60,105,113,32,116,121,112,101,61,39,115,101,116,39,32,105,100,61,39,49,39,62,60,113,117,101,114,121,32,120,109,108,110,115,61,39,106,97,98,98,101,114,58,105,113,58,114,111,115,116,101,114,39,62,60,105,116,101,109,32,106,105,100,61,39,118,64,97,39,32,110,97,109,101,61,39,86,39,32,115,117,98,115,99,114,105,112,116,105,111,110,61,39,114,101,109,111,118,101,39,47,62,60,47,113,117,101,114,121,62,60,47,105,113,62,60,47,97,62]) (.nil)) (.i .i64 0) (.node (.leaf) 240100342377453729788344147888146022844716834789695909878140243684822626581727170180613971816104557956663727992848120703237751636366632899691393620942270001392859432535270079520183951213447179576517003668711148490010288673814238908911650312599753554032124725560678569318430383515714990319324886653444995136653386474257708061192221960847935819434347 (.cons (.s [60,97,32,120,109,108,110,115,61,39,106,97,98,98,101,114,58,99,108,105,101,110,116,39,62,60,105,113,32,116,121,112,101,61,39,115,101,116,39,32,105,100,61,39,49,39,62,60,113,117,101,114,121,32,120,109,108,110,115,61,39,106,97,98,98,101,114,58,105,113,58,114,111,115,116,101,114,39,62,60,105,116,101,109,32,106,105,100,61,39,118,64,97,39,32,110,97,109,101,61,39,86,39,62,60,103,114,111,117,112,62,103,60,47,103,114,111,117,112,62,60,47,105,116,101,109,62,60,47,113,117,101,114,121,62,60,47,105,113,62,60,47,97,62]) (.nil)) (.i .i64 0) (.leaf)))))
theorem k2 : m2.all (known tab1 100 30) = true := by kernel_rfl
noncomputable def g2 : Ent Tryz.prog 9 := e30.memo m2 (by kernel_rfl) Tryz.call30 k2
noncomputable def tab2 : FTree Tryz.prog 9 := .node (.node (.node (.node (.node (.node (.node (.node (.leaf) (e6) (.leaf)) (e7) (.node (.leaf) (e9) (.leaf))) (e10) (.node (.node (.leaf) (e11) (.leaf)) (e13) (.leaf))) (e16) (.node (.node (.node (.leaf) (e17) (.leaf)) (e18) (.leaf)) (e19) (.node (.node (.leaf) (e20) (.leaf)) (e21) (.leaf)))) (e22) (.node (.node (.node (.node (.leaf) (e23) (.leaf)) (e24) (.leaf)) (e25) (.node (.node (.leaf) (e26) (.leaf)) (e27) (.leaf))) (e28) (.node (.node (.node (.leaf) (e29) (.leaf)) (g2) (.leaf)) (e31) (.node (.node (.leaf) (e32) (.leaf)) (e33) (.leaf))))) (e34) (.node (.node (.node (.node (.node (.leaf) (e35) (.leaf)) (e36) (.leaf)) (e37) (.node (.node (.leaf) (e38) (.leaf)) (e39) (.leaf))) (e42) (.node (.node (.node (.leaf) (e44) (.leaf)) (e45) (.leaf)) (e46) (.node (.node (.leaf) (e47) (.leaf)) (e48) (.leaf)))) (e49) (.node (.node (.node (.node (.leaf) (e50) (.leaf)) (e51) (.leaf)) (e52) (.node (.node (.leaf) (e53) (.leaf)) (e54) (.leaf))) (e55) (.node (.node (.node (.leaf) (e56) (.leaf)) (e57) (.leaf)) (e58) (.node (.node (.leaf) (e59) (.leaf)) (e60) (.leaf)))))) (e61) (.node (.node (.node (.node (.node (.node (.leaf) (e62) (.leaf)) (e63) (.node (.leaf) (e64) (.leaf))) (e65) (.node (.node (.leaf) (e66) (.leaf)) (e67) (.leaf))) (e68) (.node (.node (.node (.leaf) (e69) (.leaf)) (e70) (.leaf)) (e71) (.node (.node (.leaf) (e72) (.leaf)) (e73) (.leaf)))) (e74) (.node (.node (.node (.node (.leaf) (e75) (.leaf)) (e76) (.leaf)) (e77) (.node (.node (.leaf) (e78) (.leaf)) (e79) (.leaf))) (e80) (.node (.node (.node (.leaf) (e81) (.leaf)) (e82) (.leaf)) (e83) (.node (.node (.leaf) (e84) (.leaf)) (e85) (.leaf))))) (e90) (.node (.node (.node (.node (.node (.leaf) (e92) (.leaf)) (e93) (.leaf)) (e94) (.node (.node (.leaf) (e95) (.leaf)) (e96) (.leaf))) (e97) (.node (.node (.node (.leaf) (e98) (.leaf)) (e99) (.leaf)) (e100) (.node (.node (.leaf) (e101) (.leaf)) (e102) (.leaf)))) (e103) (.node (.node (.node (.node (.leaf) (e104) (.leaf)) (e105) (.leaf)) (e106) (.node (.node (.leaf) (e107) (.leaf)) (e108) (.leaf))) (e109) (.node (.node (.node (.leaf) (e110) (.leaf)) (e111) (.leaf)) (e113) (.node (.node (.leaf) (e114) (.leaf)) (e115) (.leaf))))))) (e116) (.node (.node (.node (.node (.node (.node (.node (.leaf) (e117) (.leaf)) (e118) (.node (.leaf) (e119) (.leaf))) (e120) (.node (.node (.leaf) (e121) (.leaf)) (e122) (.leaf))) (g1) (.node (.node (.node (.leaf) (e125) (.leaf)) (e126) (.leaf)) (e127) (.node (.node (.leaf) (e128) (.leaf)) (e131) (.leaf)))) (e132) (.node (.node (.node (.node (.leaf) (e133) (.leaf)) (e139) (.leaf)) (e140) (.node (.node (.leaf) (e141) (.leaf)) (e142) (.leaf))) (e143) (.node (.node (.node (.leaf) (e144) (.leaf)) (e145) (.leaf)) (e146) (.node (.node (.leaf) (e147) (.leaf)) (e148) (.leaf))))) (e149) (.node (.node (.node (.node (.node (.leaf) (e150) (.leaf)) (e151) (.leaf)) (e152) (.node (.node (.leaf) (e157) (.leaf)) (e158) (.leaf))) (e159) (.node (.node (.node (.leaf) (e160) (.leaf)) (e161) (.leaf)) (e162) (.node (.node (.leaf) (e163) (.leaf)) (e164) (.leaf)))) (e165) (.node (.node (.node (.node (.leaf) (e166) (.leaf)) (e167) (.leaf)) (e168) (.node (.node (.leaf) (e169) (.leaf)) (e173) (.leaf))) (e174) (.node (.node (.node (.leaf) (e175) (.leaf)) (e176) (.leaf)) (e177) (.node (.node (.leaf) (e181) (.leaf)) (e182) (.leaf)))))) (e183) (.node (.node (.node (.node (.node (.node (.leaf) (e184) (.leaf)) (e185) (.leaf)) (e186) (.node (.node (.leaf) (e187) (.leaf)) (e188) (.leaf))) (e189) (.node (.node (.node (.leaf) (e190) (.leaf)) (e191) (.leaf)) (e192) (.node (.node (.leaf) (e193) (.leaf)) (e194) (.leaf)))) (e195) (.node (.node (.node (.node (.leaf) (e196) (.leaf)) (e197) (.leaf)) (e201) (.node (.node (.leaf) (e202) (.leaf)) (e203) (.leaf))) (e204) (.node (.node (.node (.leaf) (e205) (.leaf)) (e206) (.leaf)) (e208) (.node (.node (.leaf) (e212) (.leaf)) (e216) (.leaf))))) (e219) (.node (.node (.node (.node (.node (.leaf) (e220) (.leaf)) (e221) (.leaf)) (e222) (.node (.node (.leaf) (e223) (.leaf)) (e225) (.leaf))) (e226) (.node (.node (.node (.leaf) (e227) (.leaf)) (e228) (.leaf)) (e229) (.node (.node (.leaf) (e230) (.leaf)) (e231) (.leaf)))) (e232) (.node (.node (.node (.node (.leaf) (e233) (.leaf)) (e241) (.leaf)) (e242) (.node (.node (.leaf) (e243) (.leaf)) (e244) (.leaf))) (e246) (.node (.node (.node (.leaf) (e247) (.leaf)) (e251) (.leaf)) (e252) (.node (.node (.leaf) (e253) (.leaf)) (e261) (.leaf)))))))
end Go.Proofs.YtnfokaecobddkaaGreatDoor
end
