/- Part 15 of a proof laid in parts, one behind the other; no condition of its own. -/
import Derived.Test.YtnfokaecobddkaaGreatDoorZ14
import Derived.Lib.TrimUEq
import Derived.Test.YtnfokaecobddkaaGreatDoorZ13
import Derived.Laws.CopyOwn
import Derived.Test.YtnfokaecobddkaaGreatDoorZ12
import Derived.Laws.StructEq
set_option linter.all false
section
namespace Go.Proofs.YtnfokaecobddkaaGreatDoor
theorem getD_app (a b : ByteArray) (k : Nat) : (a.data.toList ++ b.data.toList).getD (a.size + k) 0 = b.data.toList.getD k 0 := by
  have hl : a.data.toList.length = a.size := rfl
  rw [List.getD_eq_getElem?_getD, List.getD_eq_getElem?_getD, List.getElem?_append_right (by rw [hl]; omega), hl, Nat.add_sub_cancel_left]
theorem dec_app (a b : ByteArray) (i : Nat) : Utf8.decode (a ++ b) (a.size + i) = Utf8.decode b i := by
  have hl : a.data.toList.length = a.size := rfl
  rw [Lib.decode_N, Lib.decode_N, data_app, List.length_append, Nat.add_assoc, Nat.add_assoc, Nat.add_assoc, getD_app, getD_app, getD_app, getD_app, hl, show a.size + b.data.toList.length - (a.size + i) = b.data.toList.length - i by omega]
theorem textAt_app (a b : ByteArray) : ∀ d i, b.size ≤ i + d → textAt (a ++ b) (a.size + i) = textAt b i := by
  intro d
  induction d with
  | zero =>
    intro i hi
    rw [textAt_end _ _ (by rw [app_size]; omega), textAt_end _ _ (by omega)]
  | succ d ih =>
    intro i hi
    rcases Nat.lt_or_ge i b.size with h | h
    · have hd := dec_pos b i
      have ho : okAt (a ++ b) (a.size + i) = okAt b i := by unfold okAt; rw [dec_app]
      rw [textAt_step _ _ (by rw [app_size]; omega), textAt_step b i h, ho, dec_app, Nat.add_assoc, ih _ (by omega)]
    · rw [textAt_end _ _ (by rw [app_size]; omega), textAt_end _ _ (by omega)]
theorem ascii_app {a b : ByteArray} (h : a.data.toList.all seenB = true) {i : Nat} (hi : i < a.size) : textAt (a ++ b) i = textAt (a ++ b) (i + 1) := by
  have hl : i < a.data.toList.length := hi
  have e : (a ++ b).data.toList.getD i 0 = a.data.toList[i] := by
    rw [data_app, List.getD_eq_getElem?_getD, List.getElem?_append_left hl, List.getElem?_eq_getElem hl]
    rfl
  have h1 := List.all_eq_true.1 h _ (List.getElem_mem hl)
  unfold seenB at h1
  rw [decide_eq_true_eq] at h1
  have hd : Utf8.decode (a ++ b) i = (a.data.toList[i].toNat, 1) := by
    rw [Lib.decode_N, e]
    unfold Lib.decodeN
    rw [if_pos (by omega)]
  have ho : okAt (a ++ b) i = true := by
    unfold okAt mayP
    rw [hd]
    dsimp only
    rw [if_neg (by omega)]
    simp only [Bool.and_eq_true, decide_eq_true_eq, Bool.not_eq_true', decide_eq_false_iff_not]
    omega
  rw [textAt_step _ _ (by rw [app_size]; omega), ho, hd]
  rfl
theorem text_app {a b : ByteArray} (h : a.data.toList.all seenB = true) (hb : textOK b = true) : textOK (a ++ b) = true := by
  have key : ∀ d i, i + d = a.size → textAt (a ++ b) i = textAt (a ++ b) a.size := by
    intro d
    induction d with
    | zero => intro i hi; rw [show i = a.size by omega]
    | succ d ih => intro i hi; rw [ascii_app h (by omega), ih (i + 1) (by omega)]
  rw [← textAt_zero, key a.size 0 (by omega)]
  have := textAt_app a b b.size 0 (by omega)
  rw [Nat.add_zero] at this
  rw [this, textAt_zero, hb]
theorem text_ok_of {s : ByteArray} (h : textErr s = 0) : textOK s = true := by
  unfold textErr at h
  split at h
  · omega
  · split at h
    · assumption
    · omega
theorem address_text {s : ByteArray} (h : addressI s = true) : textErr s = 0 := by
  unfold addressI at h
  simp only [Bool.or_eq_true, Bool.and_eq_true] at h
  rcases h with h | ⟨h1, h2⟩
  · have h0 : s.size = 0 := by unfold isEmp at h; exact of_decide_eq_true h
    have hn : s.data.toList = [] := List.length_eq_zero_iff.1 h0
    exact ascii_err (by rw [hn]; rfl) (by omega)
  have hj := parse_jid s
  rw [h1] at hj
  have hs := eqS_eq h2
  unfold jidI at hj
  simp only [Bool.and_eq_true, Bool.or_eq_true] at hj
  obtain ⟨⟨hl, hr⟩, hd⟩ := hj
  unfold domI at hd
  simp only [Bool.and_eq_true] at hd
  have hdl := hd.1
  have hds := set_seen hd.2.1.1 (by decide)
  unfold lenOK at hdl
  simp only [Bool.and_eq_true, Bool.not_eq_true', decide_eq_true_eq] at hdl
  have head : ((if isEmp (parsedJ s).loc then (parsedJ s).dom else (parsedJ s).loc ++ (⟨#[64]⟩ : ByteArray) ++ (parsedJ s).dom) : ByteArray).data.toList.all seenB = true ∧ ((if isEmp (parsedJ s).loc then (parsedJ s).dom else (parsedJ s).loc ++ (⟨#[64]⟩ : ByteArray) ++ (parsedJ s).dom) : ByteArray).size ≤ 129 := by
    cases he : isEmp (parsedJ s).loc
    · have hl' : localI (parsedJ s).loc = true := by
        rcases hl with h | h
        · rw [he] at h; cases h
        · exact h
      unfold localI lenOK at hl'
      simp only [Bool.and_eq_true, Bool.not_eq_true', decide_eq_true_eq] at hl'
      rw [if_neg (by decide)]
      refine ⟨app_seen (app_seen (set_seen hl'.2 (by decide)) (by decide)) hds, ?_⟩
      rw [app_size, app_size]
      have : ((⟨#[64]⟩ : ByteArray) : ByteArray).size = 1 := rfl
      omega
    · rw [if_pos rfl]
      exact ⟨hds, by omega⟩
  have tail : textOK ((if isEmp (parsedJ s).res then emB else (⟨#[47]⟩ : ByteArray) ++ (parsedJ s).res) : ByteArray) = true ∧ ((if isEmp (parsedJ s).res then emB else (⟨#[47]⟩ : ByteArray) ++ (parsedJ s).res) : ByteArray).size ≤ 65 := by
    cases he : isEmp (parsedJ s).res
    · have hr' : resI (parsedJ s).res = true := by
        rcases hr with h | h
        · rw [he] at h; cases h
        · exact h
      unfold resI lenOK at hr'
      simp only [Bool.and_eq_true, Bool.not_eq_true', decide_eq_true_eq] at hr'
      rw [if_neg (by decide)]
      refine ⟨text_app (by decide) (text_ok_of hr'.2.1), ?_⟩
      rw [app_size]
      have : ((⟨#[47]⟩ : ByteArray) : ByteArray).size = 1 := rfl
      omega
    · rw [if_pos rfl]
      exact ⟨by decide +kernel, by decide⟩
  rw [← hs]
  unfold textJ
  unfold textErr
  rw [if_neg (by rw [app_size]; omega), text_app head.1 tail.1]
  rfl
theorem hasS_in {l : List ByteArray} {s : ByteArray} (h : hasS l s = true) : s ∈ l := by
  unfold hasS at h
  obtain ⟨x, hx, e⟩ := List.any_eq_true.1 h
  have : x = s := eqS_eq e
  rw [← this]
  exact hx
theorem typed_text {k : Int} {s : ByteArray} (h : typedI k s = true) : textErr s = 0 := by
  have all : ∀ x ∈ msgTypes ++ preTypes ++ iqTypes, textErr x = 0 := by decide +kernel
  unfold typedI typesOf at h
  refine all s ?_
  split at h
  · exact List.mem_append_left _ (List.mem_append_left _ (hasS_in h))
  · split at h
    · exact List.mem_append_left _ (List.mem_append_right _ (hasS_in h))
    · split at h
      · exact List.mem_append_right _ (hasS_in h)
      · cases h
def fourS (s : StL) : List (ByteArray × ByteArray) := [((⟨#[116, 121, 112, 101]⟩ : ByteArray), s.typ), ((⟨#[105, 100]⟩ : ByteArray), s.id), ((⟨#[102, 114, 111, 109]⟩ : ByteArray), s.frm), ((⟨#[116, 111]⟩ : ByteArray), s.to)]
theorem attrsS_four (s : StL) : attrsS s = fineL ((fourS s).filter fun p => !isEmp p.2) := by
  unfold attrsS withA fourS fineL
  cases h1 : isEmp s.typ <;> cases h2 : isEmp s.id <;> cases h3 : isEmp s.frm <;> cases h4 : isEmp s.to <;> simp [h1, h2, h3, h4]
theorem stn_attrs {s : StL} (h1 : textErr s.typ = 0) (h2 : textErr s.id = 0) (h3 : textErr s.frm = 0) (h4 : textErr s.to = 0) : attrsI (attrsS s) = true := by
  rw [attrsS_four]
  have hsub : ((fourS s).filter fun p => !isEmp p.2).Sublist (fourS s) := List.filter_sublist
  have hn : (fourS s).map (·.1) = [(⟨#[116, 121, 112, 101]⟩ : ByteArray), (⟨#[105, 100]⟩ : ByteArray), (⟨#[102, 114, 111, 109]⟩ : ByteArray), (⟨#[116, 111]⟩ : ByteArray)] := rfl
  have hm := hsub.map (·.1)
  rw [hn] at hm
  refine fine_ok _ rfl ⟨?_, ?_, ?_⟩ fun p hp => ?_
  · have := hm.length_le
    have h4 : ([(⟨#[116, 121, 112, 101]⟩ : ByteArray), (⟨#[105, 100]⟩ : ByteArray), (⟨#[102, 114, 111, 109]⟩ : ByteArray), (⟨#[116, 111]⟩ : ByteArray)] : List ByteArray).length = 4 := rfl
    omega
  · have all : ([(⟨#[116, 121, 112, 101]⟩ : ByteArray), (⟨#[105, 100]⟩ : ByteArray), (⟨#[102, 114, 111, 109]⟩ : ByteArray), (⟨#[116, 111]⟩ : ByteArray)] : List ByteArray).all fullI = true := by decide +kernel
    rw [List.all_eq_true] at all ⊢
    exact fun x hx => all x (hm.subset hx)
  · have all : (([(⟨#[116, 121, 112, 101]⟩ : ByteArray), (⟨#[105, 100]⟩ : ByteArray), (⟨#[102, 114, 111, 109]⟩ : ByteArray), (⟨#[116, 111]⟩ : ByteArray)] : List ByteArray).map (·.toList)).Nodup := by decide +kernel
    exact (hm.map _).nodup all
  · have hp' := hsub.subset hp
    unfold fourS at hp'
    simp only [List.mem_cons, List.mem_nil_iff, or_false] at hp'
    rcases hp' with rfl | rfl | rfl | rfl <;> assumption
theorem stn_parts {s : StL} (h : stnI s = true) : typedI s.kind s.typ = true ∧ idI s.kind s.id = true ∧ addressI s.frm = true ∧ addressI s.to = true ∧ s.load.length ≤ 16 ∧ s.load.all spaceI = true := by
  unfold stnI at h
  simp only [Bool.and_eq_true, Bool.not_eq_true', decide_eq_false_iff_not] at h
  obtain ⟨⟨⟨⟨⟨h1, h2⟩, h3⟩, h4⟩, h5⟩, h6⟩ := h
  exact ⟨h1, h2, h3, h4, by omega, h6⟩
theorem text_sz {s : ByteArray} (h : textErr s = 0) : s.size ≤ 1000000000 := by
  unfold textErr at h
  split at h <;> omega
theorem stn_szs {s : StL} (h : stnI s = true) (hb : SzB s) : SzS s := by
  obtain ⟨h1, h2, h3, h4, -, -⟩ := stn_parts h
  have hid : textErr s.id = 0 := by
    unfold idI at h2
    simp only [Bool.and_eq_true, decide_eq_true_eq] at h2
    exact h2.1.2
  obtain ⟨b0, -, -, -, -, b5⟩ := hb
  exact ⟨b0, text_sz (typed_text h1), text_sz hid, text_sz (address_text h3), text_sz (address_text h4), b5⟩
theorem stn_node {s : StL} (h : stnI s = true) : nodeI (elemS s) = true := by
  obtain ⟨h1, h2, h3, h4, -, -⟩ := stn_parts h
  have hid : textErr s.id = 0 := by
    unfold idI at h2
    simp only [Bool.and_eq_true, decide_eq_true_eq] at h2
    exact h2.1.2
  have ha := stn_attrs (typed_text h1) hid (address_text h3) (address_text h4)
  obtain ⟨k1, k3⟩ := typed_kind h1
  have hw : fullI (wordI s.kind) = true := by
    rcases (by omega : s.kind = 1 ∨ s.kind = 2 ∨ s.kind = 3) with e | e | e <;> rw [e] <;> decide +kernel
  have hsp : textErr (⟨#[106, 97, 98, 98, 101, 114, 58, 99, 108, 105, 101, 110, 116]⟩ : ByteArray) = 0 := by decide +kernel
  unfold nodeI elemS
  simp only [show ¬ ((1 : Int) = 2) by omega, if_false, hw, hsp, ha]
  decide
end Go.Proofs.YtnfokaecobddkaaGreatDoor
end
section
namespace Go.Proofs.YtnfokaecobddkaaGreatDoor
def posL (l : List (List NodeL)) (j : Nat) : Nat := 1 + (l.take j).flatten.length
theorem flat_in {l : List (List NodeL)} {j : Nat} {x : List NodeL} (hj : l[j]? = some x) {i : Nat} (hi : i < x.length) : l.flatten[(l.take j).flatten.length + i]? = x[i]? := by
  obtain ⟨hlt, rfl⟩ := List.getElem?_eq_some_iff.1 hj
  have e : l.flatten = (l.take j).flatten ++ (l[j] ++ (l.drop (j + 1)).flatten) := by
    have h1 : l = l.take j ++ (l[j] :: l.drop (j + 1)) := by rw [← List.drop_eq_getElem_cons hlt, List.take_append_drop]
    have h2 := congrArg List.flatten h1
    rw [List.flatten_append, List.flatten_cons] at h2
    exact h2
  rw [e, List.getElem?_append_right (by omega), Nat.add_sub_cancel_left, List.getElem?_append_left hi]
theorem join_at {n : NodeL} {l : List (List NodeL)} {j : Nat} {x : List NodeL} (hj : l[j]? = some x) {i : Nat} (hi : i < x.length) : (joinV n l)[posL l j + i]? = x[i]? := by
  unfold joinV posL
  rw [show 1 + (l.take j).flatten.length + i = ((l.take j).flatten.length + i) + 1 by omega, List.getElem?_cons_succ]
  exact flat_in hj hi
theorem posL_succ {l : List (List NodeL)} {j : Nat} {x : List NodeL} (hj : l[j]? = some x) : posL l (j + 1) = posL l j + x.length := by
  unfold posL
  rw [List.take_add_one, hj, Option.toList_some, List.flatten_append, List.length_append]
  simp
  omega
theorem end_join {n : NodeL} {l : List (List NodeL)} (hl : ∀ x ∈ l, endN x 12 0 = some x.length) {j : Nat} {x : List NodeL} (hj : l[j]? = some x) : endN (joinV n l) 12 (posL l j) = some (posL l j + x.length) :=
  endN_in (v := joinV n l) (u := x) (k := posL l j) (fun i hi => join_at hj hi) 12 0 x.length (hl x (List.mem_of_getElem? hj))
theorem kid_pos {n : NodeL} {l : List (List NodeL)} (hl : ∀ x ∈ l, endN x 12 0 = some x.length) : ∀ j, j ≤ l.length → kidP (joinV n l) j 1 = posL l j
  | 0, _ => rfl
  | j + 1, hj => by
    have hx : l[j]? = some l[j] := List.getElem?_eq_getElem (by omega)
    rw [kidP, kid_pos hl j (by omega), end_join hl hx, posL_succ hx]
    rfl
theorem part_join {n : NodeL} {l : List (List NodeL)} (hl : ∀ x ∈ l, endN x 12 0 = some x.length) {j : Nat} {x : List NodeL} (hj : l[j]? = some x) : partI (joinV n l) (posL l j) = x := by
  have e : partI (joinV n l) (posL l j) = cutV (joinV n l) (posL l j) x.length := by
    unfold partI cutV
    rw [end_join hl hj, Option.getD_some, Nat.add_sub_cancel_left]
  rw [e]
  apply List.ext_getElem?
  intro i
  by_cases hi : i < x.length
  · rw [cutV_at hi, join_at hj hi]
  · rw [List.getElem?_eq_none (by unfold cutV; rw [List.length_take]; omega), List.getElem?_eq_none (by omega)]
theorem many_join (n : NodeL) (l : List (List NodeL)) : manyN (joinV n l) 0 = l.length := by
  unfold manyN joinV manyM
  simp
theorem kids_join {n : NodeL} {l : List (List NodeL)} (hl : ∀ x ∈ l, endN x 12 0 = some x.length) : kidsI (joinV n l) 0 = (List.range l.length).map (posL l) := by
  unfold kidsI kidL
  rw [many_join]
  exact List.map_congr_left fun j hj => kid_pos hl j (Nat.le_of_lt (List.mem_range.1 hj))
theorem head_kind {n : NodeL} {l : List (List NodeL)} (hl : ∀ x ∈ l, Tre 12 x) {j : Nat} (hj : j < l.length) : (nodeAt (joinV n l) (posL l j)).kind = 1 := by
  have hx : l[j]? = some l[j] := List.getElem?_eq_getElem hj
  obtain ⟨-, m, r, e, hk⟩ := hl l[j] (List.getElem_mem hj)
  have h1 := join_at (n := n) hx (i := 0) (by rw [e]; simp)
  rw [e, Nat.add_zero] at h1
  unfold nodeAt
  rw [List.getD_eq_getElem?_getD, h1]
  exact hk
theorem elems_join {n : NodeL} {l : List (List NodeL)} (hl : ∀ x ∈ l, Tre 12 x) : elemsI (joinV n l) = l ∧ blanksI (joinV n l) = true := by
  have he : ∀ x ∈ l, endN x 12 0 = some x.length := fun x hx => (hl x hx).1
  unfold elemsI blanksI elemsK blanksK
  rw [kids_join he]
  constructor
  · rw [List.filter_eq_self.2 (fun k hk => by
      obtain ⟨j, hj, rfl⟩ := List.mem_map.1 hk
      rw [head_kind hl (List.mem_range.1 hj)]
      rfl), List.map_map]
    apply List.ext_getElem?
    intro i
    rw [List.getElem?_map]
    by_cases hi : i < l.length
    · rw [List.getElem?_eq_getElem (by rw [List.length_range]; exact hi), List.getElem_range, List.getElem?_eq_getElem hi]
      show some (partI (joinV n l) (posL l i)) = some l[i]
      rw [part_join he (List.getElem?_eq_getElem hi)]
    · rw [List.getElem?_eq_none (by rw [List.length_range]; omega), List.getElem?_eq_none (by omega)]
      rfl
  · rw [List.all_eq_true]
    intro k hk
    obtain ⟨j, hj, rfl⟩ := List.mem_map.1 hk
    rw [head_kind hl (List.mem_range.1 hj)]
    rfl
theorem emp_emB {s : ByteArray} (h : isEmp s = true) : s = emB := by
  have h0 : s.size = 0 := by unfold isEmp at h; exact of_decide_eq_true h
  have hn : s.data.toList = [] := List.length_eq_zero_iff.1 h0
  exact ba_ext hn
theorem is_attr (nm name v : ByteArray) : isAttr name ⟨emB, nm, v⟩ = (nm.toList == name.toList) := by
  have h : emB.toList.isEmpty = true := by decide +kernel
  unfold isAttr
  simp only [h, Bool.true_and]
def valN (l : List AttrL) (name : ByteArray) : ByteArray := valAt l (fstP (isAttr name) l)
theorem valN_nil (name : ByteArray) : valN [] name = emB := rfl
theorem valN_cons (a : AttrL) (l : List AttrL) (name : ByteArray) : valN (a :: l) name = if isAttr name a = true then a.value else valN l name := by
  unfold valN
  by_cases h : isAttr name a = true
  · rw [if_pos h]
    simp [fstP, h, valAt]
  · rw [if_neg h]
    simp only [fstP, h]
    cases fstP (isAttr name) l <;> simp [valAt]
theorem names_ne : (((⟨#[116, 121, 112, 101]⟩ : ByteArray) : ByteArray).toList == ((⟨#[105, 100]⟩ : ByteArray) : ByteArray).toList) = false ∧ (((⟨#[116, 121, 112, 101]⟩ : ByteArray) : ByteArray).toList == ((⟨#[102, 114, 111, 109]⟩ : ByteArray) : ByteArray).toList) = false ∧ (((⟨#[116, 121, 112, 101]⟩ : ByteArray) : ByteArray).toList == ((⟨#[116, 111]⟩ : ByteArray) : ByteArray).toList) = false ∧ (((⟨#[105, 100]⟩ : ByteArray) : ByteArray).toList == ((⟨#[116, 121, 112, 101]⟩ : ByteArray) : ByteArray).toList) = false ∧ (((⟨#[105, 100]⟩ : ByteArray) : ByteArray).toList == ((⟨#[102, 114, 111, 109]⟩ : ByteArray) : ByteArray).toList) = false ∧ (((⟨#[105, 100]⟩ : ByteArray) : ByteArray).toList == ((⟨#[116, 111]⟩ : ByteArray) : ByteArray).toList) = false ∧ (((⟨#[102, 114, 111, 109]⟩ : ByteArray) : ByteArray).toList == ((⟨#[116, 121, 112, 101]⟩ : ByteArray) : ByteArray).toList) = false ∧ (((⟨#[102, 114, 111, 109]⟩ : ByteArray) : ByteArray).toList == ((⟨#[105, 100]⟩ : ByteArray) : ByteArray).toList) = false ∧ (((⟨#[102, 114, 111, 109]⟩ : ByteArray) : ByteArray).toList == ((⟨#[116, 111]⟩ : ByteArray) : ByteArray).toList) = false ∧ (((⟨#[116, 111]⟩ : ByteArray) : ByteArray).toList == ((⟨#[116, 121, 112, 101]⟩ : ByteArray) : ByteArray).toList) = false ∧ (((⟨#[116, 111]⟩ : ByteArray) : ByteArray).toList == ((⟨#[105, 100]⟩ : ByteArray) : ByteArray).toList) = false ∧ (((⟨#[116, 111]⟩ : ByteArray) : ByteArray).toList == ((⟨#[102, 114, 111, 109]⟩ : ByteArray) : ByteArray).toList) = false := by decide +kernel
theorem vals_four (s : StL) : valN (attrsS s) (⟨#[116, 121, 112, 101]⟩ : ByteArray) = s.typ ∧ valN (attrsS s) (⟨#[105, 100]⟩ : ByteArray) = s.id ∧ valN (attrsS s) (⟨#[102, 114, 111, 109]⟩ : ByteArray) = s.frm ∧ valN (attrsS s) (⟨#[116, 111]⟩ : ByteArray) = s.to := by
  obtain ⟨n1, n2, n3, n4, n5, n6, n7, n8, n9, n10, n11, n12⟩ := names_ne
  have e1 : isEmp s.typ = true → emB = s.typ := fun h => (emp_emB h).symm
  have e2 : isEmp s.id = true → emB = s.id := fun h => (emp_emB h).symm
  have e3 : isEmp s.frm = true → emB = s.frm := fun h => (emp_emB h).symm
  have e4 : isEmp s.to = true → emB = s.to := fun h => (emp_emB h).symm
  rw [attrsS_four]
  unfold fourS fineL
  cases h1 : isEmp s.typ <;> cases h2 : isEmp s.id <;> cases h3 : isEmp s.frm <;> cases h4 : isEmp s.to
  all_goals
    simp only [List.filter_cons, List.filter_nil, h1, h2, h3, h4, Bool.not_true, Bool.not_false, if_true, if_false, Bool.false_eq_true, List.map_cons, List.map_nil, valN_cons, valN_nil, is_attr, n1, n2, n3, n4, n5, n6, n7, n8, n9, n10, n11, n12, beq_self_eq_true, true_and, and_true]
  all_goals
    simp_all
theorem kind_word {k : Int} (h1 : 1 ≤ k) (h2 : k ≤ 3) : kindI (wordI k) = k := by
  rcases (by omega : k = 1 ∨ k = 2 ∨ k = 3) with e | e | e <;> rw [e] <;> decide +kernel
theorem of_join {s : StL} (hk : 1 ≤ s.kind ∧ s.kind ≤ 3) (hl : ∀ x ∈ s.load, Tre 12 x) : ofV (joinV (elemS s) s.load) = s := by
  obtain ⟨h1, h2, h3, h4⟩ := vals_four s
  have e : ofV (joinV (elemS s) s.load) = ⟨kindI (wordI s.kind), valN (attrsS s) (⟨#[116, 121, 112, 101]⟩ : ByteArray), valN (attrsS s) (⟨#[105, 100]⟩ : ByteArray), valN (attrsS s) (⟨#[102, 114, 111, 109]⟩ : ByteArray), valN (attrsS s) (⟨#[116, 111]⟩ : ByteArray), elemsI (joinV (elemS s) s.load)⟩ := rfl
  rw [e, h1, h2, h3, h4, kind_word hk.1 hk.2, (elems_join hl).1]
theorem tree_tre {x : List NodeL} (h : treeI x = true) : Tre 12 x := by
  obtain ⟨h1, h2, ⟨n, h3, h4⟩, h5⟩ := tree_parts h
  refine ⟨h5, ?_⟩
  cases x with
  | nil => simp at h1
  | cons a r =>
    simp only [List.getElem?_cons_zero, Option.some.injEq] at h3
    exact ⟨a, r, rfl, by rw [h3]; exact h4⟩
theorem space_tree {x : List NodeL} (h : spaceI x = true) : treeI x = true ∧ x.any oddN = false := by
  unfold spaceI at h
  simp only [Bool.and_eq_true, Bool.not_eq_true'] at h
  exact ⟨h.2, h.1⟩
theorem attrs_even (s : StL) : (attrsS s).any oddA = false := by
  rw [attrsS_four, List.any_eq_false]
  intro a ha
  unfold fineL at ha
  obtain ⟨p, hp, rfl⟩ := List.mem_map.1 ha
  have hp' := (List.mem_filter.1 hp).1
  have hm : p.1 ∈ ([(⟨#[116, 121, 112, 101]⟩ : ByteArray), (⟨#[105, 100]⟩ : ByteArray), (⟨#[102, 114, 111, 109]⟩ : ByteArray), (⟨#[116, 111]⟩ : ByteArray)] : List ByteArray) := by
    have : p.1 ∈ (fourS s).map (·.1) := List.mem_map.2 ⟨p, hp', rfl⟩
    exact this
  have all : ∀ nm ∈ ([(⟨#[116, 121, 112, 101]⟩ : ByteArray), (⟨#[105, 100]⟩ : ByteArray), (⟨#[102, 114, 111, 109]⟩ : ByteArray), (⟨#[116, 111]⟩ : ByteArray)] : List ByteArray), (!nameI nm || (emB.toList.isEmpty && (nm.toList == [120, 109, 108, 110, 115])) || (emB.toList == [104, 116, 116, 112, 58, 47, 47, 119, 119, 119, 46, 119, 51, 46, 111, 114, 103, 47, 50, 48, 48, 48, 47, 120, 109, 108, 110, 115, 47])) = false := by decide +kernel
  have := all _ hm
  unfold oddA
  simp only [this]
  decide
theorem space_join {s : StL} (h : stnI s = true) (ht : treeI (joinV (elemS s) s.load) = true) : spaceI (joinV (elemS s) s.load) = true := by
  obtain ⟨h1, -, -, -, -, h6⟩ := stn_parts h
  obtain ⟨k1, k3⟩ := typed_kind h1
  have hw : nameI (wordI s.kind) = true := by
    rcases (by omega : s.kind = 1 ∨ s.kind = 2 ∨ s.kind = 3) with e | e | e <;> rw [e] <;> decide +kernel
  have hg : givenB (⟨#[106, 97, 98, 98, 101, 114, 58, 99, 108, 105, 101, 110, 116]⟩ : ByteArray) = false := by decide +kernel
  have e1 : oddN (manyM (elemS s) s.load.length) = false := by
    have ha := attrs_even s
    unfold oddN
    show ((decide ((1 : Int) = 1) && !nameI (wordI s.kind)) || givenB (⟨#[106, 97, 98, 98, 101, 114, 58, 99, 108, 105, 101, 110, 116]⟩ : ByteArray) || (attrsS s).any oddA) = false
    rw [hw, hg, ha]
    rfl
  have e2 : s.load.flatten.any oddN = false := by
    rw [List.any_eq_false]
    intro x hx
    obtain ⟨v, hv, hxv⟩ := List.mem_flatten.1 hx
    have := (space_tree (List.all_eq_true.1 h6 v hv)).2
    exact List.any_eq_false.1 this x hxv
  unfold spaceI
  rw [ht]
  unfold joinV
  rw [List.any_cons, e1, e2]
  rfl
theorem put_tree {n : NodeL} {l : List (List NodeL)} (h : putE n l = 0) : treeI (joinV n l) = true ∧ putV n l = joinV n l := by
  refine ⟨?_, by unfold putV; rw [if_pos h]⟩
  unfold putE at h
  split at h
  · split at h
    · omega
    · split at h
      · omega
      · split at h
        · assumption
        · omega
  · omega
theorem back_one {s : StL} (h : buildE s = 0) : readE (buildV s) = 0 ∧ readS (buildV s) = s := by
  have hst : stnI s = true := by
    unfold buildE at h
    cases hs : stnI s with
    | true => rfl
    | false => rw [hs] at h; simp at h
  have hp : putE (elemS s) s.load = 0 := by unfold buildE at h; rw [hst] at h; exact h
  obtain ⟨ht, hv⟩ := put_tree hp
  have hb : buildV s = joinV (elemS s) s.load := by unfold buildV; rw [hst]; exact hv
  have hk := stn_kind hst
  have hl : ∀ x ∈ s.load, Tre 12 x := fun x hx => tree_tre (space_tree (List.all_eq_true.1 (stn_parts hst).2.2.2.2.2 x hx)).1
  have ho := of_join hk hl
  have hsp : spaceErr (joinV (elemS s) s.load) = 0 := by unfold spaceErr; rw [space_join hst ht]; rfl
  have hcl : ((nodeAt (joinV (elemS s) s.load) 0).space.toList == clientL) = true := by
    have : (((⟨#[106, 97, 98, 98, 101, 114, 58, 99, 108, 105, 101, 110, 116]⟩ : ByteArray) : ByteArray).toList == clientL) = true := by decide +kernel
    exact this
  have hg : goodI (joinV (elemS s) s.load) = true := by
    unfold goodI
    rw [ho, hst, hcl, (elems_join hl).2]
    rfl
  rw [hb]
  unfold readE readS
  rw [if_pos hsp, if_pos hsp, hg, if_pos rfl, if_pos rfl]
  exact ⟨rfl, ho⟩
theorem elems_tre {v : List NodeL} (ht : treeI v = true) : ∀ x ∈ elemsI v, Tre 11 x := fun x hx => by
  have htx := elems_tree ht x hx
  unfold elemsI elemsK at hx
  obtain ⟨k, hk, rfl⟩ := List.mem_map.1 hx
  obtain ⟨hk1, hk2⟩ := List.mem_filter.1 hk
  obtain ⟨e, he, hke, hel, he2⟩ := kid_end ht hk1
  have hp : partI v k = cutV v k (e - k) := by unfold partI cutV; rw [he2]; rfl
  have hlen : (partI v k).length = e - k := part_len he2
  have hs := endN_shift (v := v) (u := cutV v k (e - k)) (k := k) (m := e - k) (fun i hi => cutV_at hi) 11 0 e (by rw [Nat.add_zero]; exact he) (by omega)
  refine ⟨?_, (tree_tre htx).2⟩
  rw [hlen, hp, hs]
theorem elems_len {v : List NodeL} (ht : treeI v = true) : ∀ m, m ≤ manyN v 0 → (elemsK v (kidL v m 1)).flatten.length + 1 ≤ kidP v m 1
  | 0, _ => by
    show ([] : List (List NodeL)).flatten.length + 1 ≤ 1
    simp
  | m + 1, hm => by
    have ih := elems_len ht m (by omega)
    have h0 := (tree_parts ht).1
    have hC := chain_start (tree_parts ht).2.2.2
    have h1 := (kidP_chain (by omega) (by omega) hC m (by omega)).1
    obtain ⟨q, hq⟩ : ∃ q, manyN v 0 - m = q + 1 := ⟨manyN v 0 - m - 1, by omega⟩
    rw [hq, Nat.zero_add] at h1
    obtain ⟨x, hx, hlt, -, hxl, -⟩ := h1.step (by omega)
    have hp := part_len hx
    rw [kidL_succ, elemsK_succ, kidP, hx, Option.getD_some]
    split
    · rw [List.flatten_append, List.length_append, List.flatten_cons, List.flatten_nil, List.append_nil, hp]
      omega
    · omega
theorem read_good {v : List NodeL} (h : readE v = 0) : treeI v = true ∧ readS v = ofV v ∧ stnI (ofV v) = true := by
  unfold readE at h
  split at h
  · rename_i hs
    split at h
    · rename_i hg
      refine ⟨?_, by unfold readS; rw [if_pos hs, if_pos hg], ?_⟩
      · unfold spaceErr at hs
        cases hsp : spaceI v with
        | true => exact (space_tree hsp).1
        | false => rw [hsp] at hs; simp at hs
      · unfold goodI at hg
        simp only [Bool.and_eq_true] at hg
        exact hg.2
    · omega
  · omega
theorem read_bad {v : List NodeL} (h : readE v ≠ 0) : readS v = emS := by
  unfold readE at h
  unfold readS
  split
  · rename_i hs
    rw [if_pos hs] at h
    split
    · rename_i hg
      rw [if_pos hg] at h
      exact absurd rfl h
    · rfl
  · rfl
theorem back_two {v : List NodeL} (h : readE v = 0) : buildE (readS v) = 0 := by
  obtain ⟨ht, hr, hst⟩ := read_good h
  rw [hr]
  have hlen : (joinV (elemS (ofV v)) (ofV v).load).length ≤ 512 := by
    have h1 := elems_len ht (manyN v 0) (Nat.le_refl _)
    have h0 := (tree_parts ht).1
    have hC := chain_start (tree_parts ht).2.2.2
    have h2 := (kidP_chain (by omega) (by omega) hC (manyN v 0) (Nat.le_refl _)).2
    have h3 := (tree_parts ht).2.1
    rw [joinV_len]
    have e : (ofV v).load = elemsK v (kidL v (manyN v 0) 1) := rfl
    rw [e]
    rw [Nat.zero_add] at h2
    omega
  unfold buildE
  rw [hst, if_pos rfl]
  exact (put_ok (d := 11) (stn_node hst) rfl (fun x hx => elems_tre ht x hx) hlen (by omega)).1
end Go.Proofs.YtnfokaecobddkaaGreatDoor
end
section
namespace Go.Proofs.YtnfokaecobddkaaGreatDoor
open Go.RowKit
set_option linter.unusedSimpArgs false
set_option linter.unusedVariables false
def Fresh (base : Nat) (w : World) (P : World → Prop) : Prop := ∀ W', w.heap.size ≤ W'.heap.size → (∀ k, base ≤ k → k < w.heap.size → W'.heap[k]? = w.heap[k]?) → P W'
section
variable {base base' g : Nat} {w w' : World} {P : World → Prop}
theorem Fresh.ext (h : Fresh base w P) (hb : Below w.heap.size w w') : Fresh base w' P := fun W' h1 h2 =>
  h W' (Nat.le_trans hb.size h1) (fun k k1 k2 => (h2 k k1 (Nat.lt_of_lt_of_le k2 hb.size)).trans (hb.block k k2))
theorem Fresh.mono (h : Fresh base w P) (hb : base' ≤ base) : Fresh base' w P := fun W' h1 h2 => h W' h1 (fun k k1 k2 => h2 k (Nat.le_trans hb k1) k2)
theorem Fresh.set (h : Fresh base w P) (hg : g < base) (o : Nat) (u : Value) : Fresh base (w.setCell ⟨g, o, none⟩ u) P := fun W' q1 q2 =>
  h W' (by simpa [World.setCell] using q1) (fun k k1 k2 => (q2 k k1 (by simpa [World.setCell] using k2)).trans (heap_setCell_other w _ k _ (by show k ≠ g; omega)))
end
end Go.Proofs.YtnfokaecobddkaaGreatDoor
end
section
namespace Go.Proofs.YtnfokaecobddkaaGreatDoor
open Go.RowKit
set_option linter.unusedSimpArgs false
set_option linter.unusedVariables false
def FailsPost (s : StL) (word : ByteArray) (w : World) (e : Ending) (w' : World) : Prop :=
  ∃ A c, e = .returned (.tuple #[encS (failR s word) A c, .int .i64 (failE s word)]) ∧ (failR s word).load.length ≤ c ∧ Fresh w.heap.size w' (fun W => RdW W W.heap.size A (failR s word).load) ∧ Below w.heap.size w w'
theorem FailsPost.no {s : StL} {word : ByteArray} {w w' : World} {q : Int} (h : Below w.heap.size w w') (h1 : failR s word = emS) (h2 : failE s word = q) : FailsPost s word w (.returned (.tuple #[encS emS none 0, .int .i64 q])) w' := by
  unfold FailsPost
  rw [h1, h2]
  exact ⟨none, 0, rfl, Nat.le_refl _, fun W' _ _ h => absurd h (by decide), h⟩
theorem FailsPost.yes {s : StL} {word : ByteArray} {w w' : World} {A : Option Addr} {c : Nat} (h : Below w.heap.size w w') (h1 : failR s word = failS s word) (h2 : failE s word = 0) (h3 : 1 ≤ c) (h4 : Fresh w.heap.size w' (fun W => RdW W W.heap.size A (failS s word).load)) : FailsPost s word w (.returned (.tuple #[encS (failS s word) A c, .int .i64 0])) w' := by
  unfold FailsPost
  rw [h1, h2]
  exact ⟨A, c, rfl, h3, h4, h⟩
end Go.Proofs.YtnfokaecobddkaaGreatDoor
end
section
namespace Go.Proofs.YtnfokaecobddkaaGreatDoor
open Go.RowKit
set_option linter.unusedSimpArgs false
set_option linter.unusedVariables false
theorem NewV.fresh {base : Nat} {w : World} {A : Option Addr} {c : Nat} {v : List NodeL} (h : NewV base w A c v) : Fresh base w (fun W => RdV W W.heap.size A v) := fun W' h1 h2 => by
  obtain ⟨l, rfl, hown, hh⟩ := h
  rw [List.length_map] at hown
  have hk := fun b (hb : base ≤ b) (hl : b < w.heap.size) (q : Nat) => World.cell?_of_block (a := ⟨b, q, none⟩) (h2 b hb hl)
  refine rd_rdv ⟨by have := (Rd.of_own hown).1; simpa using this, fun h0 => ?_⟩ (fun i x hi => ⟨(hh i x hi).1, fun h0 => ?_⟩)
  · obtain ⟨g, rfl, g1, g2⟩ := own_some hown (by simpa using h0)
    obtain ⟨b, off, e, hb, hc⟩ := (Rd.of_own hown).2 (by simpa using h0)
    simp only [Option.some.injEq, Addr.mk.injEq, and_true] at e
    obtain ⟨rfl, rfl⟩ := e
    exact ⟨g, 0, rfl, Nat.lt_of_lt_of_le hb h1, fun j u hu => (hk g g1 g2 _).trans (hc j u hu)⟩
  · obtain ⟨b, off, e, b1, b2, b3, b4⟩ := (hh i x hi).2 h0
    refine ⟨b, off, e, Nat.lt_of_lt_of_le b3 h1, fun j a ha => ?_⟩
    obtain ⟨q0, q1, q2⟩ := b4 j a ha
    exact ⟨(hk b b1 b3 _).trans q0, (hk b b1 b3 _).trans q1, (hk b b1 b3 _).trans q2⟩
end Go.Proofs.YtnfokaecobddkaaGreatDoor
end
section
namespace Go.Proofs.YtnfokaecobddkaaGreatDoor
open Go.RowKit
set_option linter.unusedSimpArgs false
set_option linter.unusedVariables false
def ReadPost (v : List NodeL) (w : World) (e : Ending) (w' : World) : Prop :=
  ∃ A c ts, e = .returned (.tuple #[encS (readS v) A c, .int .i64 (readE v)]) ∧ (readS v).load.length ≤ c ∧ ts.map (·.1) = (readS v).load ∧ RowT w.heap.size (.slice A (readS v).load.length c) w' ts ∧ Below w.heap.size w w'
theorem own_at {w w' : World} {base s n : Nat} {e : TypeId} {v : Value} {xs : List Value} (h : w.ownsRow base e s v n xs) (hk : ∀ k, base ≤ k → k < w.heap.size → w'.heap[k]? = w.heap[k]?) : w'.ownsRow base e s v n xs := by
  refine ⟨h.1, ?_⟩
  rcases h.2 with h1 | ⟨g, cap, cur, h1, h2, h3, h4⟩
  · exact .inl h1
  · exact .inr ⟨g, cap, cur, h1, h2, (hk g h2 (Array.getElem?_eq_some_iff.1 h3).1).trans h3, h4⟩
theorem NewO.at {base : Nat} {v : Value} {w w' : World} {A : Option Addr} {l : List AttrL} (h : NewO base v w A l) (hs : w.heap.size ≤ w'.heap.size) (hk : ∀ k, base ≤ k → k < w.heap.size → w'.heap[k]? = w.heap[k]?) : NewO base v w' A l := fun h0 => by
  obtain ⟨b, off, h1, h2, h3, h4, h5⟩ := h h0
  exact ⟨b, off, h1, h2, h3, Nat.lt_of_lt_of_le h4 hs, fun i a hi => by
    obtain ⟨q0, q1, q2⟩ := h5 i a hi
    have hc : ∀ q : Nat, w'.cell? ⟨b, q, none⟩ = w.cell? ⟨b, q, none⟩ := fun q => World.cell?_of_block (hk b h2 h4)
    exact ⟨(hc _).trans q0, (hc _).trans q1, (hc _).trans q2⟩⟩
theorem RowT.at {base : Nat} {u : Value} {w w' : World} {ts : List TreeH} (h : RowT base u w ts) (hs : w.heap.size ≤ w'.heap.size) (hk : ∀ k, base ≤ k → k < w.heap.size → w'.heap[k]? = w.heap[k]?) : RowT base u w' ts := by
  refine ⟨own_at h.1 hk, fun x hx => ?_⟩
  obtain ⟨q1, q2, l, q3, q4, q5, q6⟩ := h.2 x hx
  exact ⟨q1, q2, l, q3, own_at q4 hk, q5, fun i y hi => ⟨(q6 i y hi).1, (q6 i y hi).2.at hs hk⟩⟩
theorem RowT.mono {base base' : Nat} {u : Value} {w : World} {ts : List TreeH} (h : RowT base u w ts) (hb : base' ≤ base) : RowT base' u w ts := by
  refine ⟨own_mono h.1 hb, fun x hx => ?_⟩
  obtain ⟨q1, q2, l, q3, q4, q5, q6⟩ := h.2 x hx
  exact ⟨q1, q2, l, q3, own_mono q4 hb, q5, fun i y hi => ⟨(q6 i y hi).1, fun h00 => by
    obtain ⟨b', off', e1, e2, e3⟩ := (q6 i y hi).2 h00
    exact ⟨b', off', e1, Nat.le_trans hb e2, e3⟩⟩⟩
theorem put6_size (w : World) (g : Nat) (a b c d e f : Value) : (put6 w g a b c d e f).heap.size = w.heap.size := by simp [put6, World.setCell]
theorem RowT.put {base : Nat} {u : Value} {w : World} {ts : List TreeH} (h : RowT base u w ts) {g : Nat} (hg : g < base) (a b c d e f : Value) : RowT base u (put6 w g a b c d e f) ts :=
  h.at (by rw [put6_size]; exact Nat.le_refl _) (fun k hk _ => put6_other (by omega) _ _ _ _ _ _)
theorem valAt_sz {l : List AttrL} {M : Nat} (h : ∀ a ∈ l, SzA M a) (o : Option Nat) : (valAt l o).size ≤ M := by
  unfold valAt
  cases o with
  | none => exact Nat.zero_le _
  | some i =>
    cases hq : l[i]? with
    | none => simp only [hq]; exact Nat.zero_le _
    | some a => simp only [hq]; exact (h a (List.mem_of_getElem? hq)).2.2
theorem part_szv {v : List NodeL} {M : Nat} (h : SzV M v) (k : Nat) : SzV M (partI v k) := by
  unfold partI
  refine ⟨?_, fun n hn => h.2 n (List.mem_of_mem_drop (List.mem_of_mem_take hn))⟩
  have := h.1
  simp only [List.length_take, List.length_drop]
  omega
theorem elems_szw {v : List NodeL} (hz : SzV 1000000000 v) (ht : treeI v = true) : SzW (elemsI v) := by
  have hl0 := (tree_parts ht).1
  obtain ⟨e0, he0, _⟩ := tree_ends ht hl0
  have h1 := (chain_start he0).lt (by have := (tree_parts ht).2.1; omega)
  have h2 := (endN_le v 12 0 e0 he0).2
  have h3 := (tree_parts ht).2.1
  have h4 : (kidsI v 0).length ≤ 512 := by
    unfold kidsI
    rw [kidL_len]
    omega
  unfold elemsI elemsK
  refine ⟨?_, fun x hx => ?_⟩
  · rw [List.length_map]
    have := List.length_filter_le (fun k => decide ((nodeAt v k).kind = 1)) (kidsI v 0)
    omega
  · obtain ⟨k, _, rfl⟩ := List.mem_map.1 hx
    exact part_szv hz k
theorem ofV_sz {v : List NodeL} (hz : SzV 1000000000 v) (ht : treeI v = true) : SzS (ofV v) := by
  have hl0 := (tree_parts ht).1
  have hn := (szv_get hz (node_get hl0)).2.2.2.1.2
  have hk := kind_range (nodeAt v 0).name
  exact ⟨⟨hk.1, show kindI (nodeAt v 0).name < 256 by omega⟩, valAt_sz hn _, valAt_sz hn _, valAt_sz hn _, valAt_sz hn _, elems_szw hz ht⟩
set_option maxHeartbeats 16000000 in
set_option maxRecDepth 10000 in
theorem sread_any (v : List NodeL) (A : Option Addr) (c : Nat) (w : World) (hc : v.length ≤ c) (hz : SzV 1000000000 v) (hr : RdV w w.heap.size A v) (hg : Glb w) :
    Calls Tryz.prog 13 #[.slice A v.length c] w (ReadPost v w) := by
  obtain ⟨W0, hW0⟩ : ∃ W0, W0 = w.alloc (.cells #[.int .u8 0, .string ⟨#[]⟩, .string ⟨#[]⟩, .string ⟨#[]⟩, .string ⟨#[]⟩, .slice none 0 0] 24) := ⟨_, rfl⟩
  have hX0 : Below w.heap.size w W0 := by rw [hW0]; exact (Below.refl _ _).alloc (Nat.le_refl _) _
  have hS0 : SAt W0 w.heap.size emS none 0 := by rw [hW0]; exact SAt.new _ _ emS none 0
  have HS := Lib.hid hS0
  have HX0 := Lib.hid hX0
  have HR := Lib.hid ((hr.below hX0 (Nat.le_refl _)).more hX0.size)
  have H1 := Lib.hid (spcheck_any v A c W0 hc hz HR.out)
  have HWE := Lib.hid hW0
  have HG := Lib.hid hg
  clear hW0 hX0 hS0 hr hg
  cases hsp : spaceI v with
  | false =>
    have HE : Box (spaceErr v = 8) := ⟨by unfold spaceErr; rw [hsp]; rfl⟩
    have HP : Box (readS v = emS ∧ readE v = 8) := ⟨by unfold readS readE; rw [HE.out]; exact ⟨rfl, rfl⟩⟩
    unfold ReadPost
    rw [HE.out] at H1
    rw [HP.out.1, HP.out.2]
    clear hsp
    go_enter Tryz.func13, Tryz.ntmps13
    go_wp2_with fail
    rw [← HWE.out]
    refine H1.out.mono ?_
    rintro e w1 ⟨rfl, hb1⟩
    have S1 := Lib.hid (HS.out.ext hb1)
    have X1 := Lib.hid (HX0.out.trans (hb1.mono HX0.out.size))
    clear hb1
    have c0 := S1.out.c0
    have c1 := S1.out.c1
    have c2 := S1.out.c2
    have c3 := S1.out.c3
    have c4 := S1.out.c4
    have c5 := S1.out.c5
    have f0 := S1.out.fz 0
    have f1 := S1.out.fz 1
    have f2 := S1.out.fz 2
    have f3 := S1.out.fz 3
    have f4 := S1.out.fz 4
    have f5 := S1.out.fz 5
    unfold emS at c0 c1 c2 c3 c4 c5
    dsimp only at c0 c1 c2 c3 c4 c5
    go_wp2
    obtain ⟨tt, hh⟩ := S1.out.put emS none 0
    exact bodyPost_ret (v := .tuple #[encS emS none 0, .int .i64 8])
      (results_jid (fn := Tryz.f13) (p := 2) (s := 3) (ty := 24) rfl _ _ w.heap.size _ _ _ _ rfl rfl hh Tryz.underlying24 (by kernel_rfl)) rfl
      ⟨none, 0, [], rfl, Nat.le_refl _, rfl, RowT.nil _ _, put6_below X1.out (Nat.le_refl _) _ _ _ _ _ _⟩
  | true =>
    have HE : Box (spaceErr v = 0) := ⟨by unfold spaceErr; rw [hsp]; rfl⟩
    rw [HE.out] at H1
    have htree : treeI v = true := by unfold spaceI at hsp; simp_all
    have hl0 := (tree_parts htree).1
    obtain ⟨b, off, rfl, hb, hcc⟩ := HR.out hl0
    obtain ⟨d0, d1, d2, ⟨A3, c3, d3, hl3, hA3⟩, d4, d5⟩ := hcc 0 (nodeAt v 0) (node_get hl0)
    have HN : Box (nodeAt v 0 = nodeAt v 0) := ⟨rfl⟩
    generalize hnn : nodeAt v 0 = n at *
    rw [Nat.zero_mul, Nat.add_zero] at d0 d1 d2 d3 d4 d5
    unfold ReadPost
    go_enter Tryz.func13, Tryz.ntmps13
    go_wp2_with fail
    rw [← HWE.out]
    refine H1.out.mono ?_
    rintro e w1 ⟨rfl, hb1⟩
    have S1 := Lib.hid (HS.out.ext hb1)
    have X1 := Lib.hid (HX0.out.trans (hb1.mono HX0.out.size))
    have e0 := (hb1.cell (p := ⟨b, off, none⟩) hb).trans d0
    have e1 := (hb1.cell (p := ⟨b, off + 1, none⟩) hb).trans d1
    have e2 := (hb1.cell (p := ⟨b, off + 2, none⟩) hb).trans d2
    have e3 := (hb1.cell (p := ⟨b, off + 3, none⟩) hb).trans d3
    have e4 := (hb1.cell (p := ⟨b, off + 4, none⟩) hb).trans d4
    have e5 := (hb1.cell (p := ⟨b, off + 5, none⟩) hb).trans d5
    have HN1 := Lib.hid (NRow.new w1 69 n A3 c3)
    obtain ⟨W2, hW2⟩ : ∃ W2, W2 = w1.alloc (.cells #[.int .u8 n.kind, .string n.space, .string n.name, .slice A3 n.attrs.length c3, .string n.text, .int .i64 n.many] 69) := ⟨_, rfl⟩
    rw [← hW2] at HN1
    have hX2 : Below w1.heap.size w1 W2 := by rw [hW2]; exact (Below.refl _ _).alloc (Nat.le_refl _) _
    have Y2 := Lib.hid (hb1.trans (hX2.mono hb1.size))
    have X2 := Lib.hid (X1.out.trans (hX2.mono X1.out.size))
    have S2 := Lib.hid (S1.out.ext hX2)
    have HRA := Lib.hid ((hA3.below Y2.out (Nat.le_refl _)).more Y2.out.size)
    have HE5 := Lib.hid (within_any v (some ⟨b, off, none⟩) c W2 hc hz ((HR.out.below Y2.out (Nat.le_refl _)).more Y2.out.size) htree)
    unfold ElemsPost at HE5
    have HW2 := Lib.hid hW2
    have hN1 : NRow W2 w1.heap.size n A3 c3 := HN1.out
    have hgw1 := S1.out.lt
    clear hW2 hX2 hb1 hcc d0 d1 d2 d3 d4 d5 hA3 HR S1
    have hg2 := HN1.out.lt
    go_wp2_with fail
    rw [← HW2.out]
    refine HE5.out.mono ?_
    rintro e w3 ⟨A5, c5, ts, rfl, hl5, hm5, hrow5, hb3⟩
    have X3 := Lib.hid (X2.out.trans (hb3.mono X2.out.size))
    have S3 := Lib.hid (S2.out.ext hb3)
    have N3 := Lib.hid (HN1.out.ext hb3)
    have R3 := Lib.hid hrow5
    have Z3 := Lib.hid hb3
    clear hb3 hrow5 e0 e1 e2 e3 e4 e5 hN1
    have HIX : Box (placeI (fstP (eqT n.name) kindNames) = placeI (fstP (eqT n.name) kindNames)) := ⟨rfl⟩
    have hix := HIX.out
    have HKI : Box ((if 0 > placeI (fstP (eqT n.name) kindNames) then 0 else placeI (fstP (eqT n.name) kindNames)) = kindI n.name) := ⟨rfl⟩
    have hkr := kind_range n.name
    generalize hpl : placeI (fstP (eqT n.name) kindNames) = pl at *
    have HPL := Lib.hid hpl
    clear hpl hix HIX
    go_wp2_with fail
    have G2 := Lib.hid (fun W (hW : Ext w3.drew W) => (N3.out.ext (ext_below hW)).c2)
    refine wp_region_typed rfl (by kernel_rfl) (by kernel_rfl) ?_
    repeat (first | refine tw_names rfl (by first | exact wd_none rfl | exact wd_yes rfl rfl rfl) ?_ | refine tw_idx _ n.name pl HPL.out (by decide) rfl rfl rfl (by first | exact wd_none rfl | exact wd_yes rfl rfl rfl) ?_ | refine tw_ldS rfl rfl G2.out (by first | exact wd_none rfl | exact wd_yes rfl rfl rfl) ?_ | refine tw_skip (wd_no rfl rfl rfl) ?_ | refine tw_mv (.inl rfl) rfl (by first | exact wd_none rfl | exact wd_yes rfl rfl rfl) ?_ | refine tw_mv (.inr rfl) rfl (by first | exact wd_none rfl | exact wd_yes rfl rfl rfl) ?_ | refine tw_pickL rfl rfl rfl (by first | exact wd_none rfl | exact wd_yes rfl rfl rfl) ?_ | refine tw_op1 _ rfl rfl (by first | exact wd_none rfl | exact wd_yes rfl rfl rfl) (fun ρ W hW h1 => by simp only [execOp, h1]; go_simp; first | done | rfl) ?_ | refine tw_op2 _ rfl rfl rfl (by first | exact wd_none rfl | exact wd_yes rfl rfl rfl) (fun ρ W hW h1 h2 => by simp only [execOp, h1, h2]; go_simp; first | done | rfl) ?_)
    dsimp only [wpT, List.reverse, List.reverseAux, FinT, SlS]
    intro u1 w4 hW4 _
    have hb4 : Below w3.heap.size w3 w4 := ext_below hW4
    have X4 := Lib.hid (X3.out.trans (hb4.mono X3.out.size))
    have S4 := Lib.hid (S3.out.ext hb4)
    have N4 := Lib.hid (N3.out.ext hb4)
    have R4 := Lib.hid (R3.out.ext hb4)
    have Z4 := Lib.hid (Z3.out.trans (hb4.mono Z3.out.size))
    simp only [Act.put, List.setIfInBounds_toArray, List.set_cons_zero, List.set_cons_succ]
    clear hW4 hb4 G2
    have hat := (szv_get hz (node_get hl0)).2.2.2.1.1
    rw [hnn] at hat
    have HFD := Lib.hid (fun W (hW : Ext w4.drew W) nm => find_any n A3 c3 nm W ((HRA.out.below (Z4.out.trans ((ext_below hW).mono Z4.out.size)) (Nat.le_refl _)).more (Z4.out.trans ((ext_below hW).mono Z4.out.size)).size) hl3 hat)
    have EF := Lib.hid (enters_of (P := Tryz.prog) Tryz.func39 (by kernel_rfl) rfl)
    have G5 := Lib.hid (fun W (hW : Ext w4.drew W) => N4.out.ext (ext_below hW))
    have GS := Lib.hid (fun W (hW : Ext w4.drew W) => (ext_below hW).size)
    obtain ⟨sv, hsv⟩ : ∃ sv, sv = ofV v := ⟨_, rfl⟩
    have HSV := Lib.hid hsv
    have hk0 : sv.kind = kindI n.name := by rw [hsv]; show kindI (nodeAt v 0).name = _; rw [hnn]
    have hk1 : sv.typ = findI n (⟨#[116, 121, 112, 101]⟩ : ByteArray) := by rw [hsv]; show findI (nodeAt v 0) _ = _; rw [hnn]
    have hk2 : sv.id = findI n (⟨#[105, 100]⟩ : ByteArray) := by rw [hsv]; show findI (nodeAt v 0) _ = _; rw [hnn]
    have hk3 : sv.frm = findI n (⟨#[102, 114, 111, 109]⟩ : ByteArray) := by rw [hsv]; show findI (nodeAt v 0) _ = _; rw [hnn]
    have hk4 : sv.to = findI n (⟨#[116, 111]⟩ : ByteArray) := by rw [hsv]; show findI (nodeAt v 0) _ = _; rw [hnn]
    have hk5 : elemsI v = sv.load := by rw [hsv]; rfl
    have hkr0 : 0 ≤ sv.kind ∧ sv.kind < 256 := by rw [hk0]; omega
    rw [← hk0] at HKI
    rw [hk5] at R4
    clear hsv hk0 hkr
    go_wp2_with fail
    refine wp_region_typed_tail 14 rfl (by kernel_rfl) (by kernel_rfl) (by kernel_rfl) ?_
    rw [hk5]
    repeat (first | refine tw_max0 pl sv.kind HKI.out rfl rfl (by first | exact wd_none rfl | exact wd_yes rfl rfl rfl) ?_ | refine tw_cvu sv.kind hkr0.1 hkr0.2 rfl rfl (by first | exact wd_none rfl | exact wd_yes rfl rfl rfl) ?_ | refine tw_ldN rfl rfl G5.out (by first | exact wd_none rfl | exact wd_yes rfl rfl rfl) ?_ | refine tw_fnB #[encN n A3 c3, .string (⟨#[116, 121, 112, 101]⟩ : ByteArray)] (.string sv.typ) rfl (fun W => EF.out _ W) rfl (by first | exact wd_none rfl | exact wd_yes rfl rfl rfl) (fun W hW => by rw [hk1]; exact HFD.out W hW _) ?_ | refine tw_fnB #[encN n A3 c3, .string (⟨#[105, 100]⟩ : ByteArray)] (.string sv.id) rfl (fun W => EF.out _ W) rfl (by first | exact wd_none rfl | exact wd_yes rfl rfl rfl) (fun W hW => by rw [hk2]; exact HFD.out W hW _) ?_ | refine tw_fnB #[encN n A3 c3, .string (⟨#[102, 114, 111, 109]⟩ : ByteArray)] (.string sv.frm) rfl (fun W => EF.out _ W) rfl (by first | exact wd_none rfl | exact wd_yes rfl rfl rfl) (fun W hW => by rw [hk3]; exact HFD.out W hW _) ?_ | refine tw_fnB #[encN n A3 c3, .string (⟨#[116, 111]⟩ : ByteArray)] (.string sv.to) rfl (fun W => EF.out _ W) rfl (by first | exact wd_none rfl | exact wd_yes rfl rfl rfl) (fun W hW => by rw [hk4]; exact HFD.out W hW _) ?_ | refine tw_bldS sv A5 c5 rfl rfl rfl rfl rfl rfl rfl (by first | exact wd_none rfl | exact wd_yes rfl rfl rfl) ?_ | refine tw_allocS w4.heap.size GS.out rfl (by first | exact wd_none rfl | exact wd_yes rfl rfl rfl) ?_ | refine tw_skip (wd_no rfl rfl rfl) ?_ | refine tw_mv (.inl rfl) rfl (by first | exact wd_none rfl | exact wd_yes rfl rfl rfl) ?_ | refine tw_mv (.inr rfl) rfl (by first | exact wd_none rfl | exact wd_yes rfl rfl rfl) ?_ | refine tw_pickL rfl rfl rfl (by first | exact wd_none rfl | exact wd_yes rfl rfl rfl) ?_ | refine tw_op1 _ rfl rfl (by first | exact wd_none rfl | exact wd_yes rfl rfl rfl) (fun ρ W hW h1 => by simp only [execOp, h1]; go_simp; first | done | rfl) ?_ | refine tw_op2 _ rfl rfl rfl (by first | exact wd_none rfl | exact wd_yes rfl rfl rfl) (fun ρ W hW h1 h2 => by simp only [execOp, h1, h2]; go_simp; first | done | rfl) ?_)
    dsimp only [wpT, List.reverse, List.reverseAux, FinT, PtS, List.take, List.drop]
    intro u9 W5 hW5 hu9
    obtain ⟨g, rfl, hg9, t9, hrow9⟩ := hu9.2
    simp only [Act.put, List.setIfInBounds_toArray, List.set_cons_zero, List.set_cons_succ]
    have hbs := below_setRow (B := w4.heap.size) (g := g) (ext_below hW5) hg9 #[.int .u8 sv.kind, .string sv.typ, .string sv.id, .string sv.frm, .string sv.to, .slice A5 sv.load.length c5]
    have SV := Lib.hid (show SAt (W5.setRow g #[.int .u8 sv.kind, .string sv.typ, .string sv.id, .string sv.frm, .string sv.to, .slice A5 sv.load.length c5]) g sv A5 c5 from ⟨t9, setRow_heap W5 g _ _ _ _ hrow9⟩)
    have HROW := Lib.hid hrow9
    clear hu9 hrow9 hW5 G5 GS HFD EF hk1 hk2 hk3 hk4
    obtain ⟨W6, hW6⟩ : ∃ W6, W6 = W5.setRow g #[.int .u8 sv.kind, .string sv.typ, .string sv.id, .string sv.frm, .string sv.to, .slice A5 sv.load.length c5] := ⟨_, rfl⟩
    rw [← hW6] at hbs SV
    have X6 := Lib.hid (X4.out.trans (hbs.mono X4.out.size))
    have S6 := Lib.hid (S4.out.ext hbs)
    have N6 := Lib.hid (N4.out.ext hbs)
    have R6 := Lib.hid (R4.out.ext hbs)
    have HW6 := Lib.hid hW6
    have hs4 := X4.out.size
    have h2s4 := Z4.out.size
    clear hW6 hbs
    refine wpList_store_row rfl 24 _ _ rfl g #[.int .u8 sv.kind, .string sv.typ, .string sv.id, .string sv.frm, .string sv.to, .slice A5 sv.load.length c5] rfl rfl t9 _ HROW.out (by kernel_rfl) rfl (by simp [Value.oneCell']) ?_
    rw [← HW6.out]
    clear HROW HW6
    have a0 := SV.out.c0
    have a1 := SV.out.c1
    have a2 := SV.out.c2
    have a3 := SV.out.c3
    have a4 := SV.out.c4
    have a5 := SV.out.c5
    have n1 := N6.out.c1
    have c0 := S6.out.c0
    have c1 := S6.out.c1
    have c2 := S6.out.c2
    have c4 := S6.out.c3
    have c6 := S6.out.c4
    have c7 := S6.out.c5
    have f0 := S6.out.fz 0
    have f1 := S6.out.fz 1
    have f2 := S6.out.fz 2
    have f3 := S6.out.fz 3
    have f4 := S6.out.fz 4
    have f5 := S6.out.fz 5
    unfold emS at c0 c1 c2 c4 c6 c7
    dsimp only at c0 c1 c2 c4 c6 c7
    have HCK := Lib.hid (scheck_any sv A5 c5 W6 (HSV.out ▸ ofV_sz hz htree) (R6.out.rdw (by rw [← hk5, ← hm5, List.length_map]) |> fun h => by rw [hm5, hk5] at h; exact h) (HG.out.below X6.out))
    have HGD : Box (goodI v = ((n.space.toList == clientL) && blanksI v && stnI sv)) := ⟨by rw [HSV.out]; unfold goodI; rw [hnn]⟩
    have HSE : Box (stnErr sv = if stnI sv then 0 else 8) := ⟨rfl⟩
    unfold encS at HCK
    generalize stnErr sv = ser at *
    generalize stnI sv = st at *
    generalize blanksI v = bb at *
    obtain ⟨gd, hgd⟩ : ∃ gd, goodI v = gd := ⟨_, rfl⟩
    rw [hgd] at HGD
    have HBV : Box (goodI v = gd) := ⟨hgd⟩
    clear hgd
    cases hq1 : (n.space.toList == clientL)
    · have HB : Box (gd = false) := ⟨by rw [HGD.out, hq1]; rfl⟩
      rw [HB.out] at HBV
      clear HGD
      unfold clientL at hq1
      have hq2 : ¬ (n.space.toList = [106, 97, 98, 98, 101, 114, 58, 99, 108, 105, 101, 110, 116]) := by simpa using hq1
      clear hq1
      have HP : Box (readS v = emS ∧ readE v = 220) := ⟨by unfold readS readE; rw [HE.out, HBV.out]; exact ⟨rfl, rfl⟩⟩
      go_wp2
      obtain ⟨tt, hh⟩ := S6.out.put emS none 0
      refine bodyPost_ret (v := .tuple #[encS emS none 0, .int .i64 220])
        (results_jid (fn := Tryz.f13) (p := 2) (s := 3) (ty := 24) rfl _ _ w.heap.size _ _ _ _ rfl rfl hh Tryz.underlying24 (by kernel_rfl)) rfl ?_
      rw [HP.out.1, HP.out.2]
      exact ⟨none, 0, [], rfl, Nat.le_refl _, rfl, RowT.nil _ _, put6_below X6.out (Nat.le_refl _) _ _ _ _ _ _⟩
    · cases bb
      · have HB : Box (gd = false) := ⟨by rw [HGD.out, hq1]; rfl⟩
        rw [HB.out] at HBV
        clear HGD
        unfold clientL at hq1
        have hq2 : n.space.toList = [106, 97, 98, 98, 101, 114, 58, 99, 108, 105, 101, 110, 116] := by simpa using hq1
        clear hq1
        have HP : Box (readS v = emS ∧ readE v = 220) := ⟨by unfold readS readE; rw [HE.out, HBV.out]; exact ⟨rfl, rfl⟩⟩
        go_wp2
        obtain ⟨tt, hh⟩ := S6.out.put emS none 0
        refine bodyPost_ret (v := .tuple #[encS emS none 0, .int .i64 220])
          (results_jid (fn := Tryz.f13) (p := 2) (s := 3) (ty := 24) rfl _ _ w.heap.size _ _ _ _ rfl rfl hh Tryz.underlying24 (by kernel_rfl)) rfl ?_
        rw [HP.out.1, HP.out.2]
        exact ⟨none, 0, [], rfl, Nat.le_refl _, rfl, RowT.nil _ _, put6_below X6.out (Nat.le_refl _) _ _ _ _ _ _⟩
      · cases st
        · have HB : Box (gd = false) := ⟨by rw [HGD.out, hq1]; rfl⟩
          rw [HB.out] at HBV
          have hse : ser = 8 := HSE.out
          subst hse
          clear HGD HSE
          unfold clientL at hq1
          have hq2 : n.space.toList = [106, 97, 98, 98, 101, 114, 58, 99, 108, 105, 101, 110, 116] := by simpa using hq1
          clear hq1
          go_wp2_with fail
          refine HCK.out.mono ?_
          rintro e w7 ⟨rfl, hb7⟩
          clear a0 a1 a2 a3 a4 a5 n1 c0 c1 c2 c4 c6 c7 f0 f1 f2 f3 f4 f5
          have SV7 := Lib.hid (SV.out.ext hb7)
          have X7 := Lib.hid (X6.out.trans (hb7.mono X6.out.size))
          have S7 := Lib.hid (S6.out.ext hb7)
          have R7 := Lib.hid (R6.out.ext hb7)
          clear hb7
          have a0 := SV7.out.c0
          have a1 := SV7.out.c1
          have a2 := SV7.out.c2
          have a3 := SV7.out.c3
          have a4 := SV7.out.c4
          have a5 := SV7.out.c5
          have c0 := S7.out.c0
          have c1 := S7.out.c1
          have c2 := S7.out.c2
          have c4 := S7.out.c3
          have c6 := S7.out.c4
          have c7 := S7.out.c5
          have f0 := S7.out.fz 0
          have f1 := S7.out.fz 1
          have f2 := S7.out.fz 2
          have f3 := S7.out.fz 3
          have f4 := S7.out.fz 4
          have f5 := S7.out.fz 5
          unfold emS at c0 c1 c2 c4 c6 c7
          dsimp only at c0 c1 c2 c4 c6 c7
          have HP : Box (readS v = emS ∧ readE v = 220) := ⟨by unfold readS readE; rw [HE.out, HBV.out]; exact ⟨rfl, rfl⟩⟩
          go_wp2
          obtain ⟨tt, hh⟩ := S7.out.put emS none 0
          refine bodyPost_ret (v := .tuple #[encS emS none 0, .int .i64 220])
            (results_jid (fn := Tryz.f13) (p := 2) (s := 3) (ty := 24) rfl _ _ w.heap.size _ _ _ _ rfl rfl hh Tryz.underlying24 (by kernel_rfl)) rfl ?_
          rw [HP.out.1, HP.out.2]
          exact ⟨none, 0, [], rfl, Nat.le_refl _, rfl, RowT.nil _ _, put6_below X7.out (Nat.le_refl _) _ _ _ _ _ _⟩
        · have HB : Box (gd = true) := ⟨by rw [HGD.out, hq1]; rfl⟩
          rw [HB.out] at HBV
          have hse : ser = 0 := HSE.out
          subst hse
          clear HGD HSE
          unfold clientL at hq1
          have hq2 : n.space.toList = [106, 97, 98, 98, 101, 114, 58, 99, 108, 105, 101, 110, 116] := by simpa using hq1
          clear hq1
          go_wp2_with fail
          refine HCK.out.mono ?_
          rintro e w7 ⟨rfl, hb7⟩
          clear a0 a1 a2 a3 a4 a5 n1 c0 c1 c2 c4 c6 c7 f0 f1 f2 f3 f4 f5
          have SV7 := Lib.hid (SV.out.ext hb7)
          have X7 := Lib.hid (X6.out.trans (hb7.mono X6.out.size))
          have S7 := Lib.hid (S6.out.ext hb7)
          have R7 := Lib.hid (R6.out.ext hb7)
          clear hb7
          have a0 := SV7.out.c0
          have a1 := SV7.out.c1
          have a2 := SV7.out.c2
          have a3 := SV7.out.c3
          have a4 := SV7.out.c4
          have a5 := SV7.out.c5
          have c0 := S7.out.c0
          have c1 := S7.out.c1
          have c2 := S7.out.c2
          have c4 := S7.out.c3
          have c6 := S7.out.c4
          have c7 := S7.out.c5
          have f0 := S7.out.fz 0
          have f1 := S7.out.fz 1
          have f2 := S7.out.fz 2
          have f3 := S7.out.fz 3
          have f4 := S7.out.fz 4
          have f5 := S7.out.fz 5
          unfold emS at c0 c1 c2 c4 c6 c7
          dsimp only at c0 c1 c2 c4 c6 c7
          have HP : Box (readS v = sv ∧ readE v = 0) := ⟨by unfold readS readE; rw [HE.out, HBV.out, HSV.out]; exact ⟨rfl, rfl⟩⟩
          go_wp2
          obtain ⟨tt, hh⟩ := S7.out.put sv A5 c5
          refine bodyPost_ret (v := .tuple #[encS sv A5 c5, .int .i64 0])
            (results_jid (fn := Tryz.f13) (p := 2) (s := 3) (ty := 24) rfl _ _ w.heap.size _ _ _ _ rfl rfl hh Tryz.underlying24 (by kernel_rfl)) rfl ?_
          rw [HP.out.1, HP.out.2]
          exact ⟨A5, c5, ts, rfl, by rw [← hk5]; exact hl5, hm5.trans hk5, (R7.out.put (Nat.lt_trans hgw1 hg2) _ _ _ _ _ _).mono (Nat.le_of_lt (Nat.lt_trans hgw1 hg2)), put6_below X7.out (Nat.le_refl _) _ _ _ _ _ _⟩
end Go.Proofs.YtnfokaecobddkaaGreatDoor
end
section
namespace Go.Proofs.YtnfokaecobddkaaGreatDoor
open Go.RowKit
set_option linter.unusedSimpArgs false
set_option linter.unusedVariables false
end Go.Proofs.YtnfokaecobddkaaGreatDoor
end
section
namespace Go.Proofs.YtnfokaecobddkaaGreatDoor
open Go.RowKit
set_option linter.unusedSimpArgs false
set_option linter.unusedVariables false
section
variable {ops : Array Oper} {w0 : World} {Fin : List Ty → Prop} {rest : List Oper} {E : Env} {Ts : List Ty} {o : Oper}
end
end Go.Proofs.YtnfokaecobddkaaGreatDoor
end
section
namespace Go.Proofs.YtnfokaecobddkaaGreatDoor
open Go.RowKit
set_option linter.unusedSimpArgs false
set_option linter.unusedVariables false
end Go.Proofs.YtnfokaecobddkaaGreatDoor
end
section
namespace Go.Proofs.YtnfokaecobddkaaGreatDoor
open Go.RowKit
set_option linter.unusedSimpArgs false
set_option linter.unusedVariables false
section
variable {ops : Array Oper} {w0 : World} {Fin : List Ty → Prop} {rest : List Oper} {E : Env} {Ts : List Ty} {o : Oper}
end
end Go.Proofs.YtnfokaecobddkaaGreatDoor
end
