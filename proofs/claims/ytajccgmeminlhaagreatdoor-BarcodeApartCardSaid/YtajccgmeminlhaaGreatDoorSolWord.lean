/- Words, their syndromes as sums, changes at places, and how far code words are apart: in plain Lean. -/
import Derived.Test.YtajccgmeminlhaaGreatDoorEnc
set_option linter.unusedVariables false
set_option linter.unusedSimpArgs false
namespace Go.Proofs.YtajccgmeminlhaaGreatDoor
open Go.Proofs.YtajccgmeminlhaaGreatDoor.Gf

theorem horner_sm (x : G) : ∀ L : List G, horner x L = sm (fun i => L.getD i 0 * x ^ i) L.length
  | [] => rfl
  | a :: L => by
    have ih := horner_sm x L
    show horner x L * x + a = _
    rw [List.length_cons, sm_cons, ih]
    have e : sm (fun c => (a :: L).getD (c + 1) 0 * x ^ (c + 1)) L.length = x * sm (fun i => L.getD i 0 * x ^ i) L.length := by
      rw [← sm_mul]
      refine sm_congr fun c _ => ?_
      rw [gpow_succ]
      show L.getD c 0 * (x ^ c * x) = _
      grind
    rw [e]
    show _ = a * x ^ 0 + _
    rw [gpow_zero]
    grind
theorem sm_rev (f : Nat → G) (n : Nat) : sm f n = sm (fun c => f (n - 1 - c)) n := by
  induction n with
  | zero => rfl
  | succ n ih =>
    rw [sm, ih, sm_cons]
    have e : sm (fun c => f (n + 1 - 1 - (c + 1))) n = sm (fun c => f (n - 1 - c)) n := sm_congr fun c hc => by
      rw [show n + 1 - 1 - (c + 1) = n - 1 - c by omega]
    rw [e, show n + 1 - 1 - 0 = n by omega]
    grind
theorem getD_rev (l : List G) (t : Nat) (h : t < l.length) : l.reverse.getD t 0 = l.getD (l.length - 1 - t) 0 := by
  rw [List.getD_eq_getElem?_getD, List.getElem?_eq_getElem (by simpa using h), List.getElem_reverse, List.getD_eq_getElem?_getD, List.getElem?_eq_getElem (show l.length - 1 - t < l.length by omega)]
/-- The syndromes as sums. -/
theorem syn_sm (l : List G) (j : Nat) : syn l j = sm (fun p => loc l.length p ^ (j + 1) * l.getD p 0) l.length := by
  unfold syn
  rw [horner_sm, List.length_reverse, sm_rev]
  refine sm_congr fun p hp => ?_
  rw [getD_rev l _ (by omega), show l.length - 1 - (l.length - 1 - p) = p by omega]
  unfold loc
  rw [gpow_mul, gpow_mul, Nat.mul_comm]
  grind
theorem getD_set' (l : List G) (i j : Nat) (x : G) (hi : i < l.length) : (l.set i x).getD j 0 = if i = j then x else l.getD j 0 := by
  rw [getD_set]
  by_cases h : i = j
  · rw [if_pos ⟨h, by omega⟩, if_pos h]
  · rw [if_neg (by omega), if_neg h]
theorem syn_set (l : List G) (p : Nat) (hp : p < l.length) (v : G) (j : Nat) : syn (l.set p (l.getD p 0 + v)) j = syn l j + loc l.length p ^ (j + 1) * v := by
  rw [syn_sm, syn_sm, List.length_set]
  have e : sm (fun q => loc l.length q ^ (j + 1) * (l.set p (l.getD p 0 + v)).getD q 0) l.length = sm (fun q => loc l.length q ^ (j + 1) * l.getD q 0 + (if q = p then loc l.length p ^ (j + 1) * v else 0)) l.length := by
    refine sm_congr fun q hq => ?_
    rw [getD_set' _ _ _ _ hp]
    by_cases h : p = q
    · subst h
      rw [if_pos rfl, if_pos rfl]
      grind
    · rw [if_neg h, if_neg (fun h2 => h h2.symm)]
      grind
  rw [e, sm_add, sm_one (f := fun q => if q = p then loc l.length p ^ (j + 1) * v else 0) (k := p) hp (fun c _ hc => if_neg hc), if_pos rfl]
/-- A word with values added at places. -/
def addAt : List G → List Nat → List G → List G
  | l, p :: P, v :: o => addAt (l.set p (l.getD p 0 + v)) P o
  | l, _, _ => l
theorem addAt_length : ∀ (l : List G) (P : List Nat) (o : List G), (addAt l P o).length = l.length
  | l, p :: P, v :: o => by unfold addAt; rw [addAt_length, List.length_set]
  | l, [], _ => by unfold addAt; rfl
  | l, _ :: _, [] => by unfold addAt; rfl
theorem syn_addAt : ∀ (P : List Nat) (l : List G) (o : List G) (j : Nat), (∀ p ∈ P, p < l.length) → o.length = P.length → syn (addAt l P o) j = syn l j + sm (fun c => loc l.length (P.getD c 0) ^ (j + 1) * o.getD c 0) P.length
  | [], l, o, j, _, ho => by
    unfold addAt sm
    rw [List.length_nil]
    unfold sm
    grind
  | p :: P, l, [], j, _, ho => by simp at ho
  | p :: P, l, v :: o, j, hP, ho => by
    unfold addAt
    rw [syn_addAt P _ o j (fun q hq => by rw [List.length_set]; exact hP q (List.mem_cons_of_mem _ hq)) (by simpa using ho), syn_set l p (hP p (List.mem_cons_self ..)), List.length_set, List.length_cons, sm_cons]
    show _ = _ + (loc l.length p ^ (j + 1) * v + sm (fun c => loc l.length (P.getD c 0) ^ (j + 1) * o.getD c 0) P.length)
    grind
theorem lin_syn {l : List G} {P : List Nat} {o : List G} (hP : ∀ p ∈ P, p < l.length) (ho : o.length = P.length) : Lin P.length (fillM l P 4 0) (fun c => o.getD c 0) 1 ↔ Code (addAt l P o) := by
  have key : ∀ r, r < 4 → sm (fun c => fillM l P 4 0 r c * o.getD c 0) P.length = sm (fun c => loc l.length (P.getD c 0) ^ (r + 1) * o.getD c 0) P.length := fun r hr => sm_congr fun c hc => by rw [fill_at l P r c hr hc]
  constructor
  · intro h r hr
    rw [syn_addAt P l o r hP ho, ← key r hr, h r hr, fill_last l P r hr]
    grind
  · intro h r hr
    have := h r hr
    rw [syn_addAt P l o r hP ho, ← key r hr] at this
    rw [fill_last l P r hr]
    grind
theorem addAt_off : ∀ (P : List Nat) (l o : List G) (q : Nat), (∀ p ∈ P, p < l.length) → q ∉ P → (addAt l P o).getD q 0 = l.getD q 0
  | [], l, o, q, _, _ => by unfold addAt; rfl
  | p :: P, l, [], q, _, _ => by unfold addAt; rfl
  | p :: P, l, v :: o, q, hP, hq => by
    unfold addAt
    rw [addAt_off P _ o q (fun r hr => by rw [List.length_set]; exact hP r (List.mem_cons_of_mem _ hr)) (fun h => hq (List.mem_cons_of_mem _ h)), getD_set' _ _ _ _ (hP p (List.mem_cons_self ..)), if_neg (fun h => hq (by rw [h]; exact List.mem_cons_self ..))]
theorem addAt_on : ∀ (P : List Nat) (l o : List G) (i : Nat), (∀ p ∈ P, p < l.length) → P.Nodup → o.length = P.length → i < P.length → (addAt l P o).getD (P.getD i 0) 0 = l.getD (P.getD i 0) 0 + o.getD i 0
  | [], l, o, i, _, _, _, hi => by simp at hi
  | p :: P, l, [], i, _, _, ho, _ => by simp at ho
  | p :: P, l, v :: o, i, hP, hd, ho, hi => by
    unfold addAt
    rw [List.nodup_cons] at hd
    have hP' : ∀ q ∈ P, q < (l.set p (l.getD p 0 + v)).length := fun r hr => by rw [List.length_set]; exact hP r (List.mem_cons_of_mem _ hr)
    cases i with
    | zero =>
      show (addAt _ P o).getD p 0 = l.getD p 0 + v
      rw [addAt_off P _ o p hP' hd.1, getD_set' _ _ _ _ (hP p (List.mem_cons_self ..)), if_pos rfl]
    | succ i =>
      show (addAt _ P o).getD (P.getD i 0) 0 = l.getD (P.getD i 0) 0 + o.getD i 0
      have hi' : i < P.length := by simpa using hi
      rw [addAt_on P _ o i hP' hd.2 (by simpa using ho) hi', getD_set' _ _ _ _ (hP p (List.mem_cons_self ..)), if_neg (fun h => hd.1 (by rw [h]; exact getD_mem0 hi'))]
theorem ext_G {a b : List G} (hl : a.length = b.length) (h : ∀ t, t < a.length → a.getD t 0 = b.getD t 0) : a = b := by
  apply List.ext_getElem hl
  intro i h1 h2
  have := h i h1
  rwa [List.getD_eq_getElem?_getD, List.getElem?_eq_getElem h1, List.getD_eq_getElem?_getD, List.getElem?_eq_getElem h2] at this
theorem mem_getD {P : List Nat} {q : Nat} (h : q ∈ P) : ∃ i, i < P.length ∧ P.getD i 0 = q := by
  obtain ⟨i, hi, rfl⟩ := List.getElem_of_mem h
  exact ⟨i, hi, by rw [List.getD_eq_getElem?_getD, List.getElem?_eq_getElem hi]; rfl⟩
def diffs (a b : List G) (P : List Nat) : List G := P.map fun q => a.getD q 0 + b.getD q 0
theorem diffs_length (a b : List G) (P : List Nat) : (diffs a b P).length = P.length := List.length_map _
theorem diffs_at (a b : List G) (P : List Nat) (i : Nat) (hi : i < P.length) : (diffs a b P).getD i 0 = a.getD (P.getD i 0) 0 + b.getD (P.getD i 0) 0 := by
  unfold diffs
  rw [List.getD_eq_getElem?_getD, List.getElem?_map, List.getElem?_eq_getElem hi, List.getD_eq_getElem?_getD (l := P), List.getElem?_eq_getElem hi]
  rfl
/-- A word that is as another one but for some places is made of it there. -/
theorem addAt_diffs {a b : List G} {P : List Nat} (hl : b.length = a.length) (hP : ∀ p ∈ P, p < a.length) (hd : P.Nodup) (h : ∀ q, q < a.length → q ∉ P → b.getD q 0 = a.getD q 0) : addAt a P (diffs a b P) = b := by
  refine ext_G (by rw [addAt_length, hl]) fun t ht => ?_
  rw [addAt_length] at ht
  by_cases hm : t ∈ P
  · obtain ⟨i, hi, rfl⟩ := mem_getD hm
    rw [addAt_on P a _ i hP hd (diffs_length ..) hi, diffs_at _ _ _ _ hi]
    grind
  · rw [addAt_off P a _ t hP hm, h t ht hm]
/-- Two code words that differ at no more than four places are the same. -/
theorem code_apart {a b : List G} {P : List Nat} (hN : a.length ≤ 63) (hl : b.length = a.length) (ha : Code a) (hb : Code b) (hP : ∀ p ∈ P, p < a.length) (hd : P.Nodup) (hn : P.length ≤ 4) (h : ∀ q, q < a.length → q ∉ P → b.getD q 0 = a.getD q 0) : b = a := by
  have hx := addAt_diffs hl hP hd h
  have hv := vandP hN hP hd hn (fun c => (diffs a b P).getD c 0) (fun r hr => by
    have h1 := hb r hr
    rw [← hx, syn_addAt P a _ r hP (diffs_length ..), ha r hr] at h1
    grind)
  refine ext_G hl fun t ht => ?_
  rw [hl] at ht
  by_cases hm : t ∈ P
  · obtain ⟨i, hi, rfl⟩ := mem_getD hm
    have := hv i hi
    rw [diffs_at _ _ _ _ hi] at this
    grind
  · exact h t ht hm
/-- The syndromes of a code word that is read with changes. -/
theorem syn_read {l w : List G} {P : List Nat} (hl : w.length = l.length) (hw : Code w) (hP : ∀ p ∈ P, p < l.length) (hd : P.Nodup) (h : ∀ q, q < l.length → q ∉ P → w.getD q 0 = l.getD q 0) (j : Nat) (hj : j < 4) : syn l j = sm (fun c => loc l.length (P.getD c 0) ^ (j + 1) * (diffs l w P).getD c 0) P.length := by
  have h1 := hw j hj
  rw [← addAt_diffs hl hP hd h, syn_addAt P l _ j hP (diffs_length ..)] at h1
  grind
theorem addAt_step : ∀ (P : List Nat) (l o : List G) (j : Nat), j < P.length → o.length = P.length → addAt l (P.take (j + 1)) (o.take (j + 1)) = (addAt l (P.take j) (o.take j)).set (P.getD j 0) ((addAt l (P.take j) (o.take j)).getD (P.getD j 0) 0 + o.getD j 0)
  | [], l, o, j, hj, _ => by simp at hj
  | p :: P, l, [], j, _, ho => by simp at ho
  | p :: P, l, v :: o, 0, _, ho => by
    simp [addAt]
  | p :: P, l, v :: o, j + 1, hj, ho => by
    have := addAt_step P (l.set p (l.getD p 0 + v)) o j (by simpa using hj) (by simpa using ho)
    simpa [addAt] using this
theorem ns_set (l : List G) (i : Nat) (x : G) : (ns l).set i (x.n : Int) = ns (l.set i x) := by
  unfold ns
  rw [List.map_set]
end Go.Proofs.YtajccgmeminlhaaGreatDoor
