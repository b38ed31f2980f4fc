/- Decs: of the parts DecP, DecA, DecB, RegR, DecC; each part tells what it proves. -/
import Derived.Test.YtajccgmeminlhaaGreatDoorSolWord
import Derived.Test.YtajccgmeminlhaaGreatDoorGues
import Derived.Test.YtajccgmeminlhaaGreatDoorRos
import Derived.WalkMore
import Derived.BigRegionIn
import Derived.Test.YtajccgmeminlhaaGreatDoorEncd
section
/- DecP, of the parts DecPure, DecFull: each part tells what it proves. -/
section
/- What solomon.Decode computes, and that it finds the code word within the bound: in plain Lean. -/
set_option linter.unusedVariables false
set_option linter.unusedSimpArgs false
namespace Go.Proofs.YtajccgmeminlhaaGreatDoor
open Go.Proofs.YtajccgmeminlhaaGreatDoor.Gf

/-- Places with those of some locators behind them. -/
def addP (N : Nat) : List Nat → List G → Option (List Nat)
  | P, [] => some P
  | P, x :: L => if x.n = 0 then none else if N < lgN x.n + 1 then none else if (N - 1 - lgN x.n) ∈ P then none else addP N (P ++ [N - 1 - lgN x.n]) L
def errsOf (s : Nat) (P : List Nat) (o : List G) : List Nat := ((List.range P.length).filter fun i => decide (s ≤ i) && decide (o.getD i 0 ≠ 0)).map fun i => P.getD i 0
def Good (l : List G) (E : List Nat) (g : List G) (w : List G) (er : List Int) : Prop :=
  ∃ P o, addP l.length E g = some P ∧ o.length = P.length ∧ Code (addAt l P o) ∧ w = addAt l P o ∧ er = sort2 (is (errsOf E.length P o))
def Bad (l : List G) (E : List Nat) (g : List G) : Prop := ∀ P, addP l.length E g = some P → ∀ o : List G, o.length = P.length → ¬ Code (addAt l P o)
/-- A code word within the bound. -/
structure Near (l : List G) (E : List Nat) (w : List G) : Prop where
  len : w.length = l.length
  code : Code w
  bound : ∃ C : List Nat, (E ++ C).Nodup ∧ (∀ p ∈ C, p < l.length) ∧ 2 * C.length + E.length ≤ 4 ∧ ∀ q, q < l.length → q ∉ E → q ∉ C → w.getD q 0 = l.getD q 0
theorem addP_spec (N : Nat) : ∀ (L : List G) (P P' : List Nat), addP N P L = some P' → P.Nodup → ∃ Q, P' = P ++ Q ∧ P'.Nodup ∧ Q.length = L.length ∧ ∀ q ∈ Q, q < N
  | [], P, P', h, hd => by
    unfold addP at h
    cases h
    exact ⟨[], by simp, hd, rfl, by simp⟩
  | x :: L, P, P', h, hd => by
    unfold addP at h
    by_cases h1 : x.n = 0
    · rw [if_pos h1] at h; cases h
    rw [if_neg h1] at h
    by_cases h2 : N < lgN x.n + 1
    · rw [if_pos h2] at h; cases h
    rw [if_neg h2] at h
    by_cases h3 : (N - 1 - lgN x.n) ∈ P
    · rw [if_pos h3] at h; cases h
    rw [if_neg h3] at h
    have hd2 : (P ++ [N - 1 - lgN x.n]).Nodup := by
      rw [List.nodup_append]
      refine ⟨hd, by simp, fun a ha b hb hab => ?_⟩
      rw [List.mem_singleton] at hb
      subst hb
      subst hab
      exact h3 ha
    obtain ⟨Q, rfl, h4, h5, h6⟩ := addP_spec N L _ P' h hd2
    refine ⟨(N - 1 - lgN x.n) :: Q, by simp, h4, by simp [h5], fun q hq => ?_⟩
    rcases List.mem_cons.1 hq with rfl | hq
    · omega
    · exact h6 q hq
theorem guess_len {T : List G} {g : List G} (hT : T.length ≤ 4) (h : g ∈ guessL T) : 2 * g.length ≤ T.length := by
  unfold guessL at h
  rcases List.mem_cons.1 h with rfl | h
  · simp
  rcases List.mem_append.1 h with h | h
  · unfold one1 at h
    split at h
    · rename_i h2
      rw [List.mem_singleton] at h
      subst h
      simpa using h2.1
    · simp at h
  · unfold two2 at h
    split at h
    · rename_i h2
      rw [List.mem_singleton] at h
      subst h
      omega
    · simp at h
theorem modL_length (l : List G) (E : List Nat) : (modL l E).length = 4 - E.length := by simp [modL]
theorem modL_at (l : List G) (E : List Nat) (i : Nat) (h : i < 4 - E.length) : (modL l E).getD i 0 = modT l.length (syn l) 0 E (E.length + i) := by
  unfold modL
  rw [List.getD_eq_getElem?_getD, List.getElem?_map, List.getElem?_range h]
  rfl
/-- The places outside E at which two words differ. -/
def errL (l : List G) (E : List Nat) (w : List G) : List Nat := (List.range l.length).filter fun p => decide (p ∉ E) && decide (l.getD p 0 ≠ w.getD p 0)
theorem mem_errL {l : List G} {E : List Nat} {w : List G} {p : Nat} : p ∈ errL l E w ↔ p < l.length ∧ p ∉ E ∧ l.getD p 0 ≠ w.getD p 0 := by
  unfold errL
  rw [List.mem_filter, List.mem_range, Bool.and_eq_true, decide_eq_true_eq, decide_eq_true_eq]
theorem errL_sorted (l : List G) (E : List Nat) (w : List G) : (errL l E w).Pairwise (· < ·) := List.Pairwise.filter _ List.pairwise_lt_range
theorem sort2_eq {e F : List Nat} (hn : e.length ≤ 2) (hd : e.Nodup) (hs : F.Pairwise (· < ·)) (hm : ∀ p, p ∈ e ↔ p ∈ F) : sort2 (is e) = is F := by
  have hF : F.length ≤ 2 := by
    match F, hs, hm with
    | [], _, _ => simp
    | [_], _, _ => simp
    | [_, _], _, _ => simp
    | x :: y :: z :: R, hs, hm =>
      exfalso
      have h1 : x < y := List.rel_of_pairwise_cons hs (by simp)
      have h2 : x < z := List.rel_of_pairwise_cons hs (by simp)
      have h3 : y < z := List.rel_of_pairwise_cons (List.Pairwise.of_cons hs) (by simp)
      have hx := (hm x).2 (by simp)
      have hy := (hm y).2 (by simp)
      have hz := (hm z).2 (by simp)
      match e, hn, hx, hy, hz with
      | [a], _, hx, hy, hz => simp at hx hy; omega
      | [a, b], _, hx, hy, hz => simp at hx hy hz; omega
  match e, hn, F, hF with
  | [], _, [], _ => rfl
  | [], _, x :: _, _ => have := (hm x).2 (by simp); simp at this
  | a :: _, _, [], _ => have := (hm a).1 (by simp); simp at this
  | [a], _, [x], _ => have := (hm a).1 (by simp); simp at this; subst this; rfl
  | [a], _, [x, y], _ =>
    have h1 : x < y := List.rel_of_pairwise_cons hs (by simp)
    have hx := (hm x).2 (by simp)
    have hy := (hm y).2 (by simp)
    simp at hx hy
    omega
  | [a, b], _, [x], _ =>
    have ha := (hm a).1 (by simp)
    have hb := (hm b).1 (by simp)
    simp at ha hb hd
    omega
  | [a, b], _, [x, y], _ =>
    have h1 : x < y := List.rel_of_pairwise_cons hs (by simp)
    have hx := (hm x).2 (by simp)
    have hy := (hm y).2 (by simp)
    have ha := (hm a).1 (by simp)
    have hb := (hm b).1 (by simp)
    simp at hx hy ha hb hd
    unfold is sort2
    simp only [List.map_cons, List.map_nil]
    by_cases hba : b < a
    · rw [if_pos (by omega)]
      have e1 : x = b := by omega
      have e2 : y = a := by omega
      rw [e1, e2]
    · rw [if_neg (by omega)]
      have e1 : x = a := by omega
      have e2 : y = b := by omega
      rw [e1, e2]
theorem mem_errsOf {s : Nat} {P : List Nat} {o : List G} {p : Nat} : p ∈ errsOf s P o ↔ ∃ i, i < P.length ∧ s ≤ i ∧ o.getD i 0 ≠ 0 ∧ P.getD i 0 = p := by
  unfold errsOf
  simp only [List.mem_map, List.mem_filter, List.mem_range, Bool.and_eq_true, decide_eq_true_eq]
  constructor
  · rintro ⟨i, ⟨h1, h2, h3⟩, h4⟩; exact ⟨i, h1, h2, h3, h4⟩
  · rintro ⟨i, h1, h2, h3, h4⟩; exact ⟨i, ⟨h1, h2, h3⟩, h4⟩
theorem errsOf_nodup {s : Nat} {P : List Nat} {o : List G} (hd : P.Nodup) : (errsOf s P o).Nodup := by
  unfold errsOf
  rw [List.Nodup, List.pairwise_map]
  refine List.Pairwise.imp_of_mem ?_ (List.Pairwise.filter _ List.nodup_range)
  intro a b ha hb hab he
  rw [List.mem_filter, List.mem_range] at ha hb
  exact hab (nodup_getD hd ha.1 hb.1 he)
theorem filter_range_le (f : Nat → Bool) (s q : Nat) (h : ∀ i, i < s → f i = false) : ((List.range (s + q)).filter f).length ≤ q := by
  induction q with
  | zero =>
    have : (List.range (s + 0)).filter f = [] := by
      rw [List.filter_eq_nil_iff]
      intro a ha
      rw [List.mem_range] at ha
      rw [h a (by omega)]
      simp
    rw [this]
    simp
  | succ q ih =>
    rw [show s + (q + 1) = (s + q) + 1 from rfl, List.range_succ, List.filter_append, List.length_append]
    have : ([s + q].filter f).length ≤ 1 := List.length_filter_le _ _
    omega
theorem errsOf_le {s q : Nat} {P : List Nat} {o : List G} (h : P.length = s + q) : (errsOf s P o).length ≤ q := by
  unfold errsOf
  rw [List.length_map, h]
  refine filter_range_le _ s q fun i hi => ?_
  rw [decide_eq_false (by omega)]
  rfl
theorem getD_append_l (E Q : List Nat) (i : Nat) (h : i < E.length) : (E ++ Q).getD i 0 = E.getD i 0 := by
  rw [List.getD_eq_getElem?_getD, List.getD_eq_getElem?_getD, List.getElem?_append_left h]
theorem getD_append_r (E Q : List Nat) (i : Nat) (h : E.length ≤ i) : (E ++ Q).getD i 0 = Q.getD (i - E.length) 0 := by
  rw [List.getD_eq_getElem?_getD, List.getD_eq_getElem?_getD, List.getElem?_append_right h]
theorem dec_some {l : List G} {E : List Nat} {g w : List G} {er : List Int} (hE : E.Nodup) (hEb : ∀ p ∈ E, p < l.length) (h4 : E.length ≤ 4) (hg : g ∈ guessL (modL l E)) (h : Good l E g w er) : Near l E w ∧ er = is (errL l E w) := by
  obtain ⟨P, o, hP, ho, hc, rfl, rfl⟩ := h
  obtain ⟨Q, rfl, hd, hQ, hQb⟩ := addP_spec _ _ _ _ hP hE
  have hb : ∀ p ∈ E ++ Q, p < l.length := fun p hp => (List.mem_append.1 hp).elim (hEb p) (hQb p)
  have hgl := guess_len (by rw [modL_length]; omega) hg
  rw [modL_length] at hgl
  refine ⟨⟨addAt_length _ _ _, hc, Q, hd, hQb, by omega, fun q hq h1 h2 => addAt_off _ _ _ _ hb (fun hm => (List.mem_append.1 hm).elim h1 h2)⟩, ?_⟩
  refine sort2_eq (Nat.le_trans (errsOf_le (q := Q.length) (by simp)) (by omega)) (errsOf_nodup hd) (errL_sorted _ _ _) fun p => ?_
  rw [mem_errsOf, mem_errL]
  rw [List.nodup_append] at hd
  constructor
  · rintro ⟨i, hi, hs, hne, rfl⟩
    refine ⟨hb _ (getD_mem0 hi), fun hm => ?_, fun he => ?_⟩
    · rw [getD_append_r _ _ _ hs] at hm
      exact hd.2.2 _ hm _ (getD_mem0 (by simp at hi; omega)) rfl
    · rw [addAt_on _ _ _ _ hb (by rw [List.nodup_append]; exact hd) ho hi] at he
      exact hne (by grind)
  · rintro ⟨hp, hpE, hne⟩
    have hm : p ∈ E ++ Q := by
      by_cases hm : p ∈ E ++ Q
      · exact hm
      · exact absurd (addAt_off _ _ _ _ hb hm).symm hne
    obtain ⟨i, hi, rfl⟩ := mem_getD hm
    refine ⟨i, hi, ?_, fun h0 => hne ?_, rfl⟩
    · by_cases hs : E.length ≤ i
      · exact hs
      · rw [getD_append_l _ _ _ (by omega)] at hpE
        exact absurd (getD_mem0 (by omega)) hpE
    · rw [addAt_on _ _ _ _ hb (by rw [List.nodup_append]; exact hd) ho hi, h0]
      grind
/-- No more than one code word is within the bound. -/
theorem near_unique {l : List G} {E : List Nat} {w w' : List G} (hN : l.length ≤ 63) (hE : E.Nodup) (hEb : ∀ p ∈ E, p < l.length) (h : Near l E w) (h' : Near l E w') : w' = w := by
  obtain ⟨C, hd, hb, hn, ho⟩ := h.bound
  obtain ⟨C', hd', hb', hn', ho'⟩ := h'.bound
  rw [List.nodup_append] at hd hd'
  refine code_apart (P := E ++ C ++ C'.filter (fun p => decide (p ∉ C))) (by rw [h.len]; exact hN) (by rw [h.len, h'.len]) h.code h'.code ?_ ?_ ?_ ?_
  · intro p hp
    rw [h.len]
    rcases List.mem_append.1 hp with hp | hp
    · exact (List.mem_append.1 hp).elim (hEb p) (hb p)
    · exact hb' p (List.mem_filter.1 hp).1
  · rw [List.nodup_append, List.nodup_append]
    refine ⟨⟨hE, hd.2.1, hd.2.2⟩, List.Pairwise.filter _ hd'.2.1, fun a ha b hb hab => ?_⟩
    subst hab
    obtain ⟨h1, h2⟩ := List.mem_filter.1 hb
    rcases List.mem_append.1 ha with ha | ha
    · exact hd'.2.2 _ ha _ h1 rfl
    · exact (of_decide_eq_true h2) ha
  · rw [List.length_append, List.length_append]
    have := List.length_filter_le (fun p => decide (p ∉ C)) C'
    omega
  · intro q hq hm
    rw [h.len] at hq
    simp only [List.mem_append, List.mem_filter, decide_eq_true_eq, not_or, not_and, Decidable.not_not] at hm
    rw [ho q hq hm.1.1 hm.1.2, ho' q hq hm.1.1 (fun h => hm.1.2 (hm.2 h))]
end Go.Proofs.YtajccgmeminlhaaGreatDoor
end
section
/- The guesses of solomon.guesses find each code word within the bound: in plain Lean. -/
set_option linter.unusedVariables false
set_option linter.unusedSimpArgs false
namespace Go.Proofs.YtajccgmeminlhaaGreatDoor
open Go.Proofs.YtajccgmeminlhaaGreatDoor.Gf

def Rep (N : Nat) (T : Nat → G) (k : Nat) (D : List Nat) (u : Nat → G) : Prop := ∀ i, k + i < 4 → T (k + i) = sm (fun c => loc N (D.getD c 0) ^ (i + 1) * u c) D.length
theorem rep_step {N : Nat} {T : Nat → G} {k p : Nat} {D : List Nat} {u : Nat → G} (h : Rep N T k (p :: D) u) : Rep N (modP (loc N p) k 0 T) (k + 1) D (fun c => (loc N (D.getD c 0) + loc N p) * u (c + 1)) := by
  intro i hi
  have h1 := h (i + 1) (by omega)
  have h2 := h i (by omega)
  rw [List.length_cons, sm_cons] at h1 h2
  unfold modP
  rw [if_pos (by omega), show k + 1 + i = k + (i + 1) by omega, show k + (i + 1) - 1 = k + i by omega, h1, h2]
  have e : sm (fun c => loc N (D.getD c 0) ^ (i + 1) * ((loc N (D.getD c 0) + loc N p) * u (c + 1))) D.length = sm (fun c => loc N ((p :: D).getD (c + 1) 0) ^ (i + 1 + 1) * u (c + 1)) D.length + loc N p * sm (fun c => loc N ((p :: D).getD (c + 1) 0) ^ (i + 1) * u (c + 1)) D.length := by
    rw [← sm_mul, ← sm_add]
    refine sm_congr fun c _ => ?_
    show _ = loc N (D.getD c 0) ^ (i + 1 + 1) * u (c + 1) + loc N p * (loc N (D.getD c 0) ^ (i + 1) * u (c + 1))
    rw [gpow_succ _ (i + 1)]
    generalize loc N (D.getD c 0) ^ (i + 1) = q
    grind
  rw [e]
  show loc N p ^ (i + 1 + 1) * u 0 + _ + loc N p * (loc N p ^ (i + 1) * u 0 + _) = _
  rw [gpow_succ _ (i + 1)]
  generalize loc N p ^ (i + 1) = q
  grind
theorem rep_all (N : Nat) (hN : N ≤ 63) (C : List Nat) : ∀ (E : List Nat) (T : Nat → G) (k : Nat) (u : Nat → G), Rep N T k (E ++ C) u → (E ++ C).Nodup → (∀ p ∈ E ++ C, p < N) → (∀ c, c < C.length → u (E.length + c) ≠ 0) →
    ∃ u', Rep N (modT N T k E) (k + E.length) C u' ∧ ∀ c, c < C.length → u' c ≠ 0
  | [], T, k, u, h, _, _, hu => ⟨u, h, fun c hc => by have := hu c hc; simpa using this⟩
  | p :: E, T, k, u, h, hd, hb, hu => by
    have hs := rep_step (D := E ++ C) h
    rw [List.cons_append, List.nodup_cons] at hd
    obtain ⟨u', h1, h2⟩ := rep_all N hN C E _ (k + 1) _ hs hd.2 (fun q hq => hb q (List.mem_cons_of_mem _ hq)) (fun c hc => by
      have h0 := hu c hc
      rw [List.length_cons, show E.length + 1 + c = E.length + c + 1 by omega] at h0
      refine gmul_ne (fun he => ?_) h0
      have hlt : E.length + c < (E ++ C).length := by rw [List.length_append]; omega
      have hm := getD_mem0 hlt
      have := loc_inj hN (hb _ (List.mem_cons_of_mem _ hm)) (hb p (List.mem_cons_self ..)) (gadd_eq he)
      rw [this] at hm
      exact hd.1 hm)
    refine ⟨u', ?_, h2⟩
    rw [List.length_cons, show k + (E.length + 1) = k + 1 + E.length by omega]
    exact h1
theorem loc_lg {N p : Nat} (hN : N ≤ 63) (hp : p < N) : lgN (loc N p).n = N - 1 - p := by
  unfold loc
  rw [npow_lg g2 (by decide), g2_lg, Nat.one_mul, Nat.mod_eq_of_lt (by omega)]
  exact (pow_at _ (by omega)).1
theorem loc_n_ne (N p : Nat) : (loc N p).n ≠ 0 := fun h => loc_ne0 N p (G.ext h)
/-- A locator of a place is one more place. -/
theorem addP_loc {N : Nat} (hN : N ≤ 63) {P : List Nat} {p : Nat} {L : List G} (hp : p < N) (hm : p ∉ P) : addP N P (loc N p :: L) = addP N (P ++ [p]) L := by
  rw [addP, if_neg (loc_n_ne N p), loc_lg hN hp, if_neg (by omega), show N - 1 - (N - 1 - p) = p by omega, if_neg hm]
theorem horner3 (x a b : G) : horner x [b, a, 1] = x * x + a * x + b := by
  show ((0 * x + 1) * x + a) * x + b = _
  grind
theorem gOf_inj {a b : Nat} (ha : a < 64) (hb : b < 64) (h : gOf a = gOf b) : a = b := by
  have := congrArg G.n h
  rwa [gOf_n a ha, gOf_n b hb] at this
theorem rootsN_nodup (p : List G) : (rootsN p 64).Nodup := by
  unfold rootsN
  refine List.Pairwise.filter _ ?_
  rw [List.pairwise_map]
  refine List.Pairwise.imp_of_mem ?_ List.nodup_range
  intro a b ha hb hab he
  rw [List.mem_range] at ha hb
  exact hab (gOf_inj ha hb he)
theorem mem_rootsN (p : List G) (x : G) : x ∈ rootsN p 64 ↔ horner x p = 0 := by
  unfold rootsN isRoot
  rw [List.mem_filter, decide_eq_true_eq, List.mem_map]
  constructor
  · exact fun h => h.2
  · intro h
    refine ⟨⟨x.n, List.mem_range.2 x.lt, ?_⟩, h⟩
    exact G.ext (gOf_n x.n x.lt)
theorem two_list {L : List G} {a b : G} (hd : L.Nodup) (hab : a ≠ b) (h : ∀ x, x ∈ L ↔ x = a ∨ x = b) : L = [a, b] ∨ L = [b, a] := by
  match L, hd, h with
  | [], _, h => have := (h a).2 (.inl rfl); simp at this
  | [x], _, h =>
    have h1 := (h a).2 (.inl rfl)
    have h2 := (h b).2 (.inr rfl)
    simp at h1 h2
    exact absurd (h1.trans h2.symm) hab
  | [x, y], hd, h =>
    have hx := (h x).1 (by simp)
    have hy := (h y).1 (by simp)
    simp at hd
    rcases hx with rfl | rfl <;> rcases hy with rfl | rfl
    · exact absurd rfl hd
    · exact .inl rfl
    · exact .inr rfl
    · exact absurd rfl hd
  | x :: y :: z :: R, hd, h =>
    exfalso
    have hx := (h x).1 (by simp)
    have hy := (h y).1 (by simp)
    have hz := (h z).1 (by simp)
    simp at hd
    rcases hx with rfl | rfl <;> rcases hy with rfl | rfl <;> rcases hz with rfl | rfl <;> simp at hd
theorem not_bad {l w : List G} {E P : List Nat} {g : List G} (hP : addP l.length E g = some P) (hl : w.length = l.length) (hw : Code w) (hb : ∀ p ∈ P, p < l.length) (hd : P.Nodup) (ho : ∀ q, q < l.length → q ∉ P → w.getD q 0 = l.getD q 0) : ¬ Bad l E g := fun h =>
  h P hP (diffs l w P) (diffs_length ..) (by rw [addAt_diffs hl hb hd ho]; exact hw)
theorem dec_none {l : List G} {E : List Nat} {w : List G} (hN : l.length ≤ 63) (hE : E.Nodup) (hEb : ∀ p ∈ E, p < l.length) (hbad : ∀ g ∈ guessL (modL l E), Bad l E g) : ¬ Near l E w := by
  intro hn
  obtain ⟨C0, hd0, hb0, hn0, ho0⟩ := hn.bound
  rw [List.nodup_append] at hd0
  -- only the places that differ
  obtain ⟨C, hC⟩ : ∃ C, C = C0.filter (fun p => decide (l.getD p 0 ≠ w.getD p 0)) := ⟨_, rfl⟩
  have hCb : ∀ p ∈ C, p < l.length := fun p hp => hb0 p (by rw [hC] at hp; exact (List.mem_filter.1 hp).1)
  have hCn : ∀ p ∈ C, l.getD p 0 ≠ w.getD p 0 := fun p hp => by rw [hC] at hp; exact of_decide_eq_true (List.mem_filter.1 hp).2
  have hCl : 2 * C.length + E.length ≤ 4 := by
    have := List.length_filter_le (fun p => decide (l.getD p 0 ≠ w.getD p 0)) C0
    rw [hC]
    omega
  have hd : (E ++ C).Nodup := by
    rw [List.nodup_append]
    exact ⟨hE, by rw [hC]; exact List.Pairwise.filter _ hd0.2.1, fun a ha b hb hab => by rw [hC] at hb; exact hd0.2.2 a ha b (List.mem_filter.1 hb).1 hab⟩
  have ho : ∀ q, q < l.length → q ∉ E ++ C → w.getD q 0 = l.getD q 0 := by
    intro q hq hm
    rw [List.mem_append, not_or] at hm
    by_cases h0 : q ∈ C0
    · by_cases he : l.getD q 0 = w.getD q 0
      · exact he.symm
      · exact absurd (by rw [hC]; exact List.mem_filter.2 ⟨h0, decide_eq_true he⟩) hm.2
    · exact ho0 q hq hm.1 h0
  have hb : ∀ p ∈ E ++ C, p < l.length := fun p hp => (List.mem_append.1 hp).elim (hEb p) (hCb p)
  have hcode := hn.code
  have hlen := hn.len
  clear hC hd0 hb0 hn0 ho0 hn
  have hrep : Rep l.length (syn l) 0 (E ++ C) (fun c => (diffs l w (E ++ C)).getD c 0) := by
    intro i hi
    rw [Nat.zero_add]
    exact syn_read hlen hcode hb hd ho i (by omega)
  obtain ⟨u, hu, hu0⟩ := rep_all l.length hN C E (syn l) 0 _ hrep hd hb (fun c hc => by
    rw [diffs_at _ _ _ _ (by rw [List.length_append]; omega), getD_append_r _ _ _ (by omega), show E.length + c - E.length = c by omega]
    intro h0
    exact hCn _ (getD_mem0 hc) (gadd_eq h0))
  rw [Nat.zero_add] at hu
  have hT : ∀ i, i < 4 - E.length → (modL l E).getD i 0 = sm (fun c => loc l.length (C.getD c 0) ^ (i + 1) * u c) C.length := fun i hi => by
    rw [modL_at _ _ _ hi]
    exact hu i (by omega)
  match C, hd, hb, ho, hCb, hCl, hu0, hT with
  | [], hd, hb, ho, hCb, hCl, hu0, hT =>
    rw [List.append_nil] at hd hb ho
    exact not_bad (P := E) (g := []) (by rfl) hlen hcode hb hd ho (hbad [] (by simp [guessL]))
  | [p], hd, hb, ho, hCb, hCl, hu0, hT =>
    have hp := hCb p (by simp)
    simp at hCl
    have h0 := hT 0 (by omega)
    have h1 := hT 1 (by omega)
    have hu := hu0 0 (by simp)
    have e0 : (modL l E).getD 0 0 = loc l.length p * u 0 := by
      rw [h0]
      show 0 + loc l.length p ^ (0 + 1) * u 0 = _
      rw [gpow_succ, gpow_zero]
      grind
    have e1 : (modL l E).getD 1 0 = loc l.length p * loc l.length p * u 0 := by
      rw [h1]
      show 0 + loc l.length p ^ (1 + 1) * u 0 = _
      rw [gpow_succ, gpow_succ, gpow_zero]
      grind
    have hX := loc_ne0 l.length p
    have hne : (modL l E).getD 0 0 ≠ 0 := by rw [e0]; exact gmul_ne hX hu
    have hq : (modL l E).getD 1 0 / (modL l E).getD 0 0 = loc l.length p := by
      rw [e1, e0]
      generalize loc l.length p = X at hX
      generalize u 0 = v at hu
      grind
    have hone : one1 (modL l E) = [[loc l.length p]] := by
      unfold one1
      rw [if_pos ⟨by rw [modL_length]; omega, hne⟩, hq]
    have hpE : p ∉ E := fun h => by
      rw [List.nodup_append] at hd
      exact hd.2.2 _ h p (by simp) rfl
    exact not_bad (P := E ++ [p]) (g := [loc l.length p]) (by rw [addP_loc hN hp hpE]; rfl) hlen hcode hb hd ho (hbad _ (by unfold guessL; rw [hone]; simp))
  | [p, r], hd, hb, ho, hCb, hCl, hu0, hT =>
    simp at hCl
    have hE0 : E = [] := List.eq_nil_of_length_eq_zero (by omega)
    subst hE0
    have hp := hCb p (by simp)
    have hr := hCb r (by simp)
    have hpr : p ≠ r := by
      simp at hd
      exact hd
    have hul := hu0 0 (by simp)
    have hvl := hu0 1 (by simp)
    obtain ⟨X, hX⟩ : ∃ X, X = loc l.length p := ⟨_, rfl⟩
    obtain ⟨Y, hY⟩ : ∃ Y, Y = loc l.length r := ⟨_, rfl⟩
    have hXY : X ≠ Y := fun h => hpr (loc_inj hN hp hr (by rw [← hX, ← hY]; exact h))
    have hX0 : X ≠ 0 := by rw [hX]; exact loc_ne0 _ _
    have hY0 : Y ≠ 0 := by rw [hY]; exact loc_ne0 _ _
    have ht : ∀ i, i < 4 → (modL l []).getD i 0 = X ^ (i + 1) * u 0 + Y ^ (i + 1) * u 1 := fun i hi => by
      rw [hT i (by simpa using hi), hX, hY]
      show 0 + _ + _ = _
      grind
    have e0 := ht 0 (by omega)
    have e1 := ht 1 (by omega)
    have e2 := ht 2 (by omega)
    have e3 := ht 3 (by omega)
    simp only [gpow_succ, gpow_zero] at e0 e1 e2 e3
    generalize u 0 = v at hul e0 e1 e2 e3
    generalize u 1 = z at hvl e0 e1 e2 e3
    have hdet : detT (modL l []) = v * z * X * Y * (X + Y) * (X + Y) := by
      unfold detT
      rw [e0, e1, e2]
      grind
    have hs : X + Y ≠ 0 := fun h => hXY (gadd_eq h)
    have hdet0 : detT (modL l []) ≠ 0 := by
      rw [hdet]
      exact gmul_ne (gmul_ne (gmul_ne (gmul_ne (gmul_ne hul hvl) hX0) hY0) hs) hs
    have ha : aT (modL l []) = X + Y := by
      unfold aT
      have : (modL l []).getD 1 0 * (modL l []).getD 2 0 + (modL l []).getD 0 0 * (modL l []).getD 3 0 = (X + Y) * detT (modL l []) := by
        rw [hdet, e0, e1, e2, e3]
        grind
      rw [this]
      generalize detT (modL l []) = d at hdet0
      grind
    have hb' : bT (modL l []) = X * Y := by
      unfold bT
      have : (modL l []).getD 2 0 * (modL l []).getD 2 0 + (modL l []).getD 1 0 * (modL l []).getD 3 0 = (X * Y) * detT (modL l []) := by
        rw [hdet, e1, e2, e3]
        grind
      rw [this]
      generalize detT (modL l []) = d at hdet0
      grind
    have hroots : rootsT (modL l []) = [X, Y] ∨ rootsT (modL l []) = [Y, X] := by
      refine two_list (by unfold rootsT; exact rootsN_nodup _) hXY fun x => ?_
      unfold rootsT
      rw [mem_rootsN, horner3, ha, hb']
      constructor
      · intro h
        have : (x + X) * (x + Y) = 0 := by grind
        by_cases h1 : x + X = 0
        · exact .inl (gadd_eq h1)
        · by_cases h2 : x + Y = 0
          · exact .inr (gadd_eq h2)
          · exact absurd this (gmul_ne h1 h2)
      · rintro (rfl | rfl) <;> grind
    have hlen2 : (rootsT (modL l [])).length = 2 := by rcases hroots with h | h <;> rw [h] <;> rfl
    have hmem : rootsT (modL l []) ∈ guessL (modL l []) := by
      unfold guessL two2
      rw [if_pos ⟨by rw [modL_length]; rfl, hdet0, hlen2⟩]
      simp
    rcases hroots with h | h
    · refine not_bad (P := [p, r]) (g := rootsT (modL l [])) ?_ hlen hcode hb hd ho (hbad _ hmem)
      rw [h, hX, hY, addP_loc hN hp (by simp), addP_loc hN hr (by simpa using fun h => hpr h.symm)]
      rfl
    · refine not_bad (P := [r, p]) (g := rootsT (modL l [])) ?_ hlen hcode (fun q hq => hb q (by simp at hq ⊢; omega)) (by simpa using fun h => hpr h.symm) (fun q hq hm => ho q hq (by simp at hm ⊢; omega)) (hbad _ hmem)
      rw [h, hX, hY, addP_loc hN hr (by simp), addP_loc hN hp (by simpa using hpr)]
      rfl
  | _ :: _ :: _ :: _, hd, hb, ho, hCb, hCl, hu0, hT => simp at hCl; omega
end Go.Proofs.YtajccgmeminlhaaGreatDoor
end
end
section
/- slices.Contains in plain words; solomon.Decode where it refuses: walks. -/
set_option linter.unusedVariables false
set_option linter.unusedSimpArgs false
namespace Go.Proofs.YtajccgmeminlhaaGreatDoor
open Go.RowKit Go.Shelf Go.Proofs.YtajccgmeminlhaaGreatDoorW.PrintWords Go.Proofs.YtajccgmeminlhaaGreatDoorW.PrintLast Go.Proofs.YtajccgmeminlhaaGreatDoor.Q Go.Proofs.YtajccgmeminlhaaGreatDoor.Gf

theorem idx_l0 (l : List Int) (a : Int) (hn : l.length ≤ 1000) : ∀ (d i k : Nat), l.length ≤ d + i → i ≤ l.length → d < k → ∃ r, slices_Index_int_int.l0 k l a (l.length : Int) (i : Int) = some r ∧ (r ≥ 0 ↔ a ∈ l.drop i) := by
  intro d
  induction d with
  | zero =>
    intro i k h1 h2 h3
    obtain ⟨k, rfl⟩ : ∃ k', k = k' + 1 := ⟨k - 1, by omega⟩
    refine ⟨-1, ?_, ?_⟩
    · rw [slices_Index_int_int.l0, if_neg (by omega)]
    · rw [List.drop_eq_nil_of_le (by omega)]
      simp
  | succ d ih =>
    intro i k h1 h2 h3
    obtain ⟨k, rfl⟩ : ∃ k', k = k' + 1 := ⟨k - 1, by omega⟩
    by_cases hi : i < l.length
    · have e0 : rd l (i : Int) = l[i] := by
        unfold rd
        rw [Int.toNat_natCast, List.getD_eq_getElem?_getD, List.getElem?_eq_getElem hi]
        rfl
      have e1 : wrap64 ((i : Int) + 1) = ((i + 1 : Nat) : Int) := by unfold wrap64; omega
      have hd : l.drop i = l[i] :: l.drop (i + 1) := List.drop_eq_getElem_cons hi
      by_cases ha : a = l[i]
      · refine ⟨(i : Int), ?_, ?_⟩
        · rw [slices_Index_int_int.l0, if_pos (by omega)]
          simp [e0, ha]
          try omega
        · exact ⟨fun _ => by rw [hd, ha]; exact List.mem_cons_self .., fun _ => by omega⟩
      · obtain ⟨r, hr, hm⟩ := ih (i + 1) k (by omega) (by omega) (by omega)
        refine ⟨r, ?_, ?_⟩
        · rw [slices_Index_int_int.l0, if_pos (by omega)]
          simp only [e0, ha, e1, if_false]
          rw [if_pos (by omega), if_pos (by omega)]
          exact hr
        · rw [hd, List.mem_cons, hm]
          simp [ha]
    · refine ⟨-1, ?_, ?_⟩
      · rw [slices_Index_int_int.l0, if_neg (by omega)]
      · rw [List.drop_eq_nil_of_le (by omega)]
        simp
theorem contains_f (l : List Int) (a : Int) (hn : l.length ≤ 1000) : slices_Contains_int_int.f 1001 l a = some (decide (a ∈ l)) := by
  obtain ⟨r, hr, hm⟩ := idx_l0 l a hn l.length 0 1001 (by omega) (by omega) (by omega)
  rw [List.drop_zero] at hm
  unfold slices_Contains_int_int.f slices_Index_int_int.f
  rw [show ((0 : Nat) : Int) = 0 from rfl] at hr
  rw [hr, Option.bind_some]
  congr 1
  exact decide_eq_decide.2 hm
section
variable {P : Program}
theorem results_ci {fn : Func} {p p' : Tmp} {ty ty' : TypeId} (h : fn.results = #[.cell p ty, .cell p' ty']) (tmps : Array Value) (w : World) (g g' : Nat) (t : TypeId) (cs : Array Value) (fr : Nat × Nat) (d : TypeDesc) (n : Int)
    (hp : tmps.getD p undef = .pointer (some ⟨g, 0, none⟩)) (hg : w.heap[g]? = some (.cells cs t fr))
    (hu : P.underlying ty = some d) (hd : (match d with | .struct _ | .array _ _ => true | _ => false) = true) (hi : (P.info? ty).map (·.size) = some cs.size)
    (hp' : tmps.getD p' undef = .pointer (some ⟨g', 0, none⟩)) (hg' : w.cell? ⟨g', 0, none⟩ = some (.int .i64 n))
    (hu' : P.underlying ty' = some (.int .i64)) :
    (results fn tmps).run P w = .ok (.tuple #[.agg cs, .int .i64 n]) w := by
  have h1 : tmps[p]?.getD undef = .pointer (some ⟨g, 0, none⟩) := by simpa using hp
  have h2 : tmps[p']?.getD undef = .pointer (some ⟨g', 0, none⟩) := by simpa using hp'
  simp [results, h, h1, h2, asAddr, run_loadVar_row w g t ty cs fr d hg hu hd hi]
  have hv : (loadVar ty' ⟨g', 0, none⟩).run P w = .ok (.int .i64 n) w := by
    simp [loadVar, isAgg, run_underlying hu', hg', go_sem]
  rw [hv]
  rfl
end
end Go.Proofs.YtajccgmeminlhaaGreatDoor
end
section
/- solomon.Decode where it refuses: walks. -/
set_option linter.unusedVariables false
set_option linter.unusedSimpArgs false
namespace Go.Proofs.YtajccgmeminlhaaGreatDoor
open Go.RowKit Go.Shelf Go.Proofs.YtajccgmeminlhaaGreatDoorW.PrintWords Go.Proofs.YtajccgmeminlhaaGreatDoorW.PrintLast Go.Proofs.YtajccgmeminlhaaGreatDoor.Q Go.Proofs.YtajccgmeminlhaaGreatDoor.Gf

/-- The world behind Decode's four blocks. -/
structure DecW (w W : World) (v0 v1 : Value) : Prop where
  below : Below w.heap.size w W
  size : w.heap.size + 4 ≤ W.heap.size
  b0 : Boxed W w.heap.size 48 v0
  b1 : Boxed W (w.heap.size + 1) 29 v1
  b2 : W.heap[w.heap.size + 1 + 1]? = some (.cells #[.slice none 0 0, .slice none 0 0] 100 (0, 0))
  b3 : Boxed W (w.heap.size + 1 + 1 + 1) 26 (.int .i64 0)
theorem DecW.step {w W W' : World} {v0 v1 : Value} (h : DecW w W v0 v1) (hb : Below W.heap.size W W') : DecW w W' v0 v1 := by
  have hs := h.size
  refine ⟨h.below.trans (hb.mono h.below.size), Nat.le_trans h.size hb.size, ?_, ?_, ?_, ?_⟩
  · exact (hb.block _ (by omega)).trans h.b0
  · exact (hb.block _ (by omega)).trans h.b1
  · exact (hb.block _ (by omega)).trans h.b2
  · exact (hb.block _ (by omega)).trans h.b3
theorem decW (w : World) (v0 v1 : Value) : DecW w ((((w.alloc (.cells #[v0] 48)).alloc (.cells #[v1] 29)).alloc (.cells #[.slice none 0 0, .slice none 0 0] 100)).alloc (.cells #[.int .i64 0] 26)) v0 v1 := by
  have s1 : (w.alloc (.cells #[v0] 48)).heap.size = w.heap.size + 1 := by simp
  have s2 : ((w.alloc (.cells #[v0] 48)).alloc (.cells #[v1] 29)).heap.size = w.heap.size + 2 := by simp
  have s3 : (((w.alloc (.cells #[v0] 48)).alloc (.cells #[v1] 29)).alloc (.cells #[.slice none 0 0, .slice none 0 0] 100)).heap.size = w.heap.size + 3 := by simp
  refine ⟨((((Below.refl _ w).alloc (Nat.le_refl _) _).alloc (by simp) _).alloc (by simp; omega) _).alloc (by simp; omega) _, by simp, ?_, ?_, ?_, ?_⟩
  · exact boxed_alloc (boxed_alloc (boxed_alloc (Boxed.new w 48 v0) _) _) _
  · have := Boxed.new (w.alloc (.cells #[v0] 48)) 29 v1
    rw [s1] at this
    exact boxed_alloc (boxed_alloc this _) _
  · have := heap_alloc_new ((w.alloc (.cells #[v0] 48)).alloc (.cells #[v1] 29)) (.cells #[.slice none 0 0, .slice none 0 0] 100)
    rw [s2] at this
    exact blk_alloc this _
  · have := Boxed.new (((w.alloc (.cells #[v0] 48)).alloc (.cells #[v1] 29)).alloc (.cells #[.slice none 0 0, .slice none 0 0] 100)) 26 (.int .i64 0)
    rw [s3] at this
    exact this
/-- What is stored behind the last test. -/
theorem dec_stored {W : World} {g h : Nat} (hne : h ≠ g) {cs : Array Value} {T T' : TypeId} (hg : W.heap[g]? = some (.cells cs T (0, 0))) (hh : Boxed W h T' (.int .i64 0)) (hcs : cs.size = 2) (a b : Value) (n : Int) :
    (((W.setCell ⟨g, 0, none⟩ a).setCell ⟨g, 1, none⟩ b).setCell ⟨h, 0, none⟩ (.int .i64 n)).heap[g]? = some (.cells #[a, b] T (0, 0)) ∧ (((W.setCell ⟨g, 0, none⟩ a).setCell ⟨g, 1, none⟩ b).setCell ⟨h, 0, none⟩ (.int .i64 n)).cell? ⟨h, 0, none⟩ = some (.int .i64 n) := by
  obtain ⟨x, y, rfl⟩ : ∃ x y, cs = #[x, y] := ⟨cs[0], cs[1], by
    apply Array.ext
    · simp [hcs]
    · intro i h1 h2
      have : i = 0 ∨ i = 1 := by simp at h2; omega
      rcases this with rfl | rfl <;> simp⟩
  have h1 := heap_setCell_same _ _ 1 _ _ b (heap_setCell_same _ _ 0 _ _ a hg)
  constructor
  · rw [heap_setCell_other _ _ _ _ (fun e => hne e.symm), h1]
    simp
  · have hh2 : Boxed ((W.setCell ⟨g, 0, none⟩ a).setCell ⟨g, 1, none⟩ b) h T' (.int .i64 0) := by
      unfold Boxed at hh ⊢
      rw [heap_setCell_other _ _ _ _ hne, heap_setCell_other _ _ _ _ hne]
      exact hh
    exact (boxed_put hh2 (.int .i64 n)).cell
set_option maxHeartbeats 4000000 in
set_option maxRecDepth 100000 in
theorem Dec_noword (A : Option Addr) (c : Nat) (l : List Int) (A1 : Option Addr) (n1 c1 : Nat) (w : World) (hr : Kd.C (Kd.int .u8) w A l.length l) (hc : l.length ≤ c) (hn : l.length ≤ 1000000) (hb : wordW l = false) :
    Calls Tryz.prog 45 #[.slice A l.length c, .slice A1 n1 c1] w fun e w' => e = .returned (.tuple #[.agg #[.slice none 0 0, .slice none 0 0], .int .i64 2]) ∧ Below w.heap.size w w' := by
  obtain ⟨W, hW⟩ : ∃ W, (((w.alloc (.cells #[.slice A l.length c] 48)).alloc (.cells #[.slice A1 n1 c1] 29)).alloc (.cells #[.slice none 0 0, .slice none 0 0] 100)).alloc (.cells #[.int .i64 0] 26) = W := ⟨_, rfl⟩
  have hD := decW w (.slice A l.length c) (.slice A1 n1 c1)
  rw [hW] at hD
  have HD := Aside0.mk hD
  have HW := Aside0.mk (word_any A c l W (Kd.C_below hr hD.below) hc hn)
  rw [hb] at HW
  have hc0 := hD.b0.cell
  have hk4 : W.frozen? ⟨w.heap.size + 1 + 1, 0, none⟩ = false := by unfold World.frozen?; rw [hD.b2]; simp
  have hk5 : W.frozen? ⟨w.heap.size + 1 + 1, 1, none⟩ = false := by unfold World.frozen?; rw [hD.b2]; simp
  have hk6 := hD.b3.frozen
  have hcc4 : W.cell? ⟨w.heap.size + 1 + 1, 0, none⟩ = some (.slice none 0 0) := by unfold World.cell?; rw [hD.b2]; simp
  have hcc5 : W.cell? ⟨w.heap.size + 1 + 1, 1, none⟩ = some (.slice none 0 0) := by unfold World.cell?; rw [hD.b2]; simp
  have hcc6 := hD.b3.cell
  clear hr hD
  go_enter Tryz.func45, Tryz.ntmps45
  go_wp2_with (first | rw [hW])
  go_step3
  go_wp2_with fail
  refine HW.out.mono ?_
  rintro e w1 ⟨rfl, rfl⟩
  go_wp2_with fail
  have hf := dec_stored (g := w.heap.size + 1 + 1) (h := w.heap.size + 1 + 1 + 1) (by omega) HD.out.b2 HD.out.b3 rfl (.slice none 0 0) (.slice none 0 0) 2
  have hbe := ((HD.out.below.setCell (p := ⟨w.heap.size + 1 + 1, 0, none⟩) (by simp; omega) (.slice none 0 0)).setCell (p := ⟨w.heap.size + 1 + 1, 1, none⟩) (by simp; omega) (.slice none 0 0)).setCell (p := ⟨w.heap.size + 1 + 1 + 1, 0, none⟩) (by simp; omega) (.int .i64 2)
  rw [Exit.noGoto_ret]
  exact bodyPost_ret (v := .tuple #[.agg #[.slice none 0 0, .slice none 0 0], .int .i64 2]) (results_ci (by rfl) _ _ (w.heap.size + 1 + 1) (w.heap.size + 1 + 1 + 1) _ _ _ _ 2 rfl hf.1 Tryz.underlying100 rfl (by kernel_rfl) rfl hf.2 Tryz.underlying26) rfl ⟨rfl, hbe⟩
theorem DecW.cells {w W : World} {v0 v1 : Value} (h : DecW w W v0 v1) : W.frozen? ⟨w.heap.size + 1 + 1, 0, none⟩ = false ∧ W.frozen? ⟨w.heap.size + 1 + 1, 1, none⟩ = false ∧ W.cell? ⟨w.heap.size + 1 + 1, 0, none⟩ = some (.slice none 0 0) ∧ W.cell? ⟨w.heap.size + 1 + 1, 1, none⟩ = some (.slice none 0 0) := by
  refine ⟨?_, ?_, ?_, ?_⟩
  · unfold World.frozen?; rw [h.b2]; simp
  · unfold World.frozen?; rw [h.b2]; simp
  · unfold World.cell?; rw [h.b2]; simp
  · unfold World.cell?; rw [h.b2]; simp
theorem dec_out {w W : World} {v0 v1 : Value} (h : DecW w W v0 v1) (n : Int) {Q : Ending → World → Prop} (tmps : Array Value)
    (h4 : tmps.getD 4 undef = .pointer (some ⟨w.heap.size + 1 + 1, 0, none⟩)) (h5 : tmps.getD 5 undef = .pointer (some ⟨w.heap.size + 1 + 1 + 1, 0, none⟩))
    (hQ : ∀ W', Below w.heap.size w W' → Q (.returned (.tuple #[.agg #[.slice none 0 0, .slice none 0 0], .int .i64 n])) W') :
    bodyPost Tryz.prog Tryz.f45 Q .ret { tmps := tmps, defers := [] } (((W.setCell ⟨w.heap.size + 1 + 1, 0, none⟩ (.slice none 0 0)).setCell ⟨w.heap.size + 1 + 1, 1, none⟩ (.slice none 0 0)).setCell ⟨w.heap.size + 1 + 1 + 1, 0, none⟩ (.int .i64 n)) := by
  have hf := dec_stored (g := w.heap.size + 1 + 1) (h := w.heap.size + 1 + 1 + 1) (by omega) h.b2 h.b3 rfl (.slice none 0 0) (.slice none 0 0) n
  have hbe := ((h.below.setCell (p := ⟨w.heap.size + 1 + 1, 0, none⟩) (by simp; omega) (.slice none 0 0)).setCell (p := ⟨w.heap.size + 1 + 1, 1, none⟩) (by simp; omega) (.slice none 0 0)).setCell (p := ⟨w.heap.size + 1 + 1 + 1, 0, none⟩) (by simp; omega) (.int .i64 n)
  exact bodyPost_ret (v := .tuple #[.agg #[.slice none 0 0, .slice none 0 0], .int .i64 n]) (results_ci (by rfl) _ _ (w.heap.size + 1 + 1) (w.heap.size + 1 + 1 + 1) _ _ _ _ n h4 hf.1 Tryz.underlying100 rfl (by kernel_rfl) h5 hf.2 Tryz.underlying26) rfl (hQ _ hbe)
/-- One place of a list of places. -/
def okAt (N : Nat) (es : List Int) (i : Nat) : Prop := 0 ≤ es.getD i 0 ∧ es.getD i 0 < N ∧ es.getD i 0 ∉ es.take i
set_option maxHeartbeats 8000000 in
set_option maxRecDepth 100000 in
theorem Dec_places (A : Option Addr) (c : Nat) (l : List G) (A1 : Option Addr) (es : List Int) (c1 : Nat) (w : World) (hr : Kd.C (Kd.int .u8) w A l.length (ns l)) (hc : l.length ≤ c) (h4 : 4 < l.length) (hn : l.length ≤ 63) (hr1 : Kd.C (Kd.int .i64) w A1 es.length es) (hc1 : es.length ≤ c1) (hn1 : es.length ≤ 1000) (hbad : (∀ i, i < es.length → okAt l.length es i) → 4 < es.length) :
    Calls Tryz.prog 45 #[.slice A l.length c, .slice A1 es.length c1] w fun e w' => ∃ n : Int, e = .returned (.tuple #[.agg #[.slice none 0 0, .slice none 0 0], .int .i64 n]) ∧ ((n = 2 ∧ ¬ ∀ i, i < es.length → okAt l.length es i) ∨ (n = 190 ∧ ∀ i, i < es.length → okAt l.length es i)) ∧ Below w.heap.size w w' := by
  obtain ⟨W, hW⟩ : ∃ W, (((w.alloc (.cells #[.slice A l.length c] 48)).alloc (.cells #[.slice A1 es.length c1] 29)).alloc (.cells #[.slice none 0 0, .slice none 0 0] 100)).alloc (.cells #[.int .i64 0] 26) = W := ⟨_, rfl⟩
  have hD := decW w (.slice A l.length c) (.slice A1 es.length c1)
  rw [hW] at hD
  have HD := Aside0.mk hD
  have hw := word_any A c (ns l) W (by rw [ns_length]; exact Kd.C_below hr hD.below) (by rw [ns_length]; exact hc) (by rw [ns_length]; omega)
  rw [word_yes l h4 hn, ns_length] at hw
  have HW := Aside0.mk hw
  have HR1 := Aside0.mk (Kd.C_below hr1 hD.below)
  have HBAD := Aside0.mk hbad
  have hc0 := hD.b0.cell
  have hc1' := hD.b1.cell
  clear hr hD hw hr1 hbad
  go_enter Tryz.func45, Tryz.ntmps45
  go_wp2_with (first | rw [hW])
  go_step3
  go_wp2_with fail
  refine HW.out.mono ?_
  rintro e w1 ⟨rfl, rfl⟩
  go_wp2_with fail
  go_loopw [26] (fun i wr => ∃ k : Nat, k ≤ es.length ∧ i = .int .i64 k ∧ (∀ j, j < k → okAt l.length es j) ∧ Below w1.heap.size w1 wr) (fun i _ => es.length - (intOf i).toNat)
  case atStart => exact ⟨0, Nat.zero_le _, rfl, fun j hj => by omega, Below.refl _ _⟩
  case round =>
    obtain ⟨k, hk, rfl, hok, hB⟩ := hrel
    have HOK := Aside0.mk hok
    have HB := Aside0.mk hB
    have hDr := HD.out.step hB
    have HDr := Aside0.mk hDr
    have hc0r := hDr.b0.cell
    have hc1r := hDr.b1.cell
    obtain ⟨hf0, hf1, hcc0, hcc1⟩ := hDr.cells
    have hf2 := hDr.b3.frozen
    have hcc2 := hDr.b3.cell
    have HRr := Aside0.mk (Kd.C_below HR1.out hB)
    clear hok hB hDr
    by_cases hpk : k < es.length
    · obtain ⟨ad, hA1, hx⟩ := Kd.at_int HRr.out k (by omega) (by omega)
      have HTK := Aside0.mk (Kd.C_take HRr.out (m := k) (by omega))
      have e1 : rd es (k : Int) = es.getD k 0 := by unfold rd; rw [Int.toNat_natCast]
      rw [e1, Int.toNat_natCast] at hx
      have HAT := Aside0.mk (show okAt l.length es k ↔ (0 ≤ es.getD k 0 ∧ es.getD k 0 < l.length ∧ es.getD k 0 ∉ es.take k) from Iff.rfl)
      have HTL := Aside0.mk (show (es.take k).length = k by rw [List.length_take]; omega)
      have hkc : k ≤ c1 := by omega
      subst hA1
      have HCO := Aside0.mk (slices_Contains_int_int.calls 1001 (some ad) c1 (es.take k) (es.getD k 0) _ wr HTK.out (by rw [HTL.out]; exact hkc) (contains_f (es.take k) (es.getD k 0) (by rw [HTL.out]; omega)))
      rw [HTL.out] at HCO
      generalize es.getD k 0 = x at hx HAT HCO
      clear e1
      by_cases h1 : x < 0
      · have HNO := Aside0.mk (show ¬ ∀ i, i < es.length → okAt l.length es i from fun h => by have := (HAT.out.1 (h k hpk)).1; omega)
        go_wp2_with fail
        try rw [Exit.noGoto_ret]
        exact dec_out HDr.out 2 _ rfl rfl (fun W' hb => ⟨2, rfl, .inl ⟨rfl, HNO.out⟩, hb⟩)
      · by_cases h2 : x < l.length
        · by_cases h3 : x ∈ es.take k
          · have HNO := Aside0.mk (show ¬ ∀ i, i < es.length → okAt l.length es i from fun h => (HAT.out.1 (h k hpk)).2.2 h3)
            rw [decide_eq_true h3] at HCO
            go_wp2_with fail
            refine HCO.out.mono ?_
            rintro e w3 ⟨rfl, hd3⟩
            have HD3 := Aside0.mk (HDr.out.step hd3.below)
            obtain ⟨hf0, hf1, hcc0, hcc1⟩ := HD3.out.cells
            have hf2 := HD3.out.b3.frozen
            have hcc2 := HD3.out.b3.cell
            clear hd3
            go_wp2_with fail
            try rw [Exit.noGoto_ret]
            exact dec_out HD3.out 2 _ rfl rfl (fun W' hb => ⟨2, rfl, .inl ⟨rfl, HNO.out⟩, hb⟩)
          · have HYES := Aside0.mk (HAT.out.2 ⟨by omega, h2, h3⟩)
            rw [decide_eq_false h3] at HCO
            go_wp2_with fail
            refine HCO.out.mono ?_
            rintro e w3 ⟨rfl, hd3⟩
            have HB3 := Aside0.mk (HB.out.trans (hd3.below.mono HB.out.size))
            clear hd3
            go_wp2_with fail
            go_roundw
            case rel => exact ⟨k + 1, by omega, by go_num, fun j hj => by
              by_cases h : j = k
              · rw [h]; exact HYES.out
              · exact HOK.out j (by omega), HB3.out⟩
            case measure => simp [intOf]; omega
        · have HNO := Aside0.mk (show ¬ ∀ i, i < es.length → okAt l.length es i from fun h => h2 (HAT.out.1 (h k hpk)).2.1)
          go_wp2_with fail
          try rw [Exit.noGoto_ret]
          exact dec_out HDr.out 2 _ rfl rfl (fun W' hb => ⟨2, rfl, .inl ⟨rfl, HNO.out⟩, hb⟩)
    · obtain rfl : k = es.length := by omega
      have h5 : 4 < es.length := HBAD.out HOK.out
      have h5i : (4 : Int) < (es.length : Int) := by omega
      go_wp2_with fail
      try rw [Exit.noGoto_ret]
      exact dec_out HDr.out 190 _ rfl rfl (fun W' hb => ⟨190, rfl, .inr ⟨rfl, HOK.out⟩, hb⟩)
end Go.Proofs.YtajccgmeminlhaaGreatDoor
end
section
/- A region that draws its order of evaluation, in a round of a range over a function, walked by hand. -/
set_option linter.unusedVariables false
set_option linter.unusedSimpArgs false
namespace Go.Proofs.YtajccgmeminlhaaGreatDoor
open Go.RowKit Go.Proofs.YtajccgmeminlhaaGreatDoorW.PrintLast

def ndefer (ops : Array Oper) : Bool := ops.all fun o => match o.op with
  | .defer _ => false
  | _ => true
section
variable {P : Program} {ops : Array Oper} {Q : Exit → Act → World → Prop} {md : Region.Mode} {S : World → Prop} {ds : List Nat}
theorem oper_round (y n : Nat) {o : Oper} {a : Act} {w : World} {K : Act → World → Prop} (hnd : ∀ c, o.op ≠ .defer c) (h : o.wp P a w K Q) : o.wpIn (Fence.wide.inRound y) n P a w K Q := by
  unfold Oper.wpIn
  refine ⟨fun _ _ => trivial, ?_⟩
  rw [Oper.semAt_eq _ _ _ hnd]
  unfold Oper.wp at h
  generalize (execOp a.eval o).run P w = r at h ⊢
  cases r with
  | ok x w' =>
    cases x with
    | value v => exact h
    | skip => exact h
    | defer d => exact h
    | enter f args => exact ⟨fun hd => by simp [Fence.wide, Fence.inRound] at hd, CallsIn.inRound y (callsIn_wide.2 h)⟩
    | row row args =>
      refine ⟨fun hd => by simp [Fence.wide, Fence.inRound] at hd, fun c cs _ => ?_⟩
      obtain ⟨v, w'', hr, hs⟩ := h c cs
      exact ⟨v, w'', hr, stepsIn_wide.2 hs⟩
    | round => exact h.elim
    | _ => exact h.elim
  | halt x w' => cases x <;> exact h
theorem op_round (y n : Nat) (hnd : ndefer ops = true) (hlo : ¬ LetsOut Q) {i : Nat} {a : Act} {w : World} {K K' : Act → World → Prop} (hK : ∀ a w, K a w → K' a w) (h : wpOp P ops Q i K a w) : wpOpIn (Fence.wide.inRound y) n P ops Q i K' a w := by
  unfold wpOp at h
  unfold wpOpIn
  cases ho : ops[i]? with
  | none => rw [ho] at h; exact hK _ _ h
  | some o =>
    rw [ho] at h
    simp only at h ⊢
    have hd : ∀ c, o.op ≠ .defer c := fun c hc => by
      have := Array.all_eq_true_iff_forall_mem.1 hnd o (Array.mem_of_getElem? ho)
      rw [hc] at this
      cases this
    by_cases hw : Region.wanted o (yielded ops a.tmps) = true
    · rw [if_pos hw] at h ⊢
      rcases h with h | h
      · exact Oper.wpIn_mono hK (oper_round y n hd h)
      · exact absurd h.2 hlo
    · rw [if_neg hw] at h ⊢
      exact ⟨fun _ _ => trivial, hK _ _ h⟩
theorem any_round (y n : Nat) (hnd : ndefer ops = true) (hlo : ¬ LetsOut Q) : ∀ (fuel : Nat) (listed : Array Bool) (a : Act) (w : World), wpAny P md ops Q fuel listed a w → wpAnyIn (Fence.wide.inRound y) n P md ops Q fuel listed a w
  | 0, _, _, _, h => h
  | fuel + 1, _, _, _, h => ⟨h.1, fun i hi => op_round y n hnd hlo (fun a' w' h' => any_round y n hnd hlo fuel _ a' w' h') (h.2 i hi)⟩
theorem startR_ (y n' : Nat) (hnd : ndefer ops = true) (hlo : ¬ LetsOut Q) {id n : Nat} {a : Act} {w : World} (l : Array Bool) (hm : P.follows .mixedOrders = true) (hn : ops.size = n) (hl : Array.replicate n false = l) (hS : S w.drew)
    (h : S w.drew → wpAnyLast P .any ops Q S ds n l a w.drew) : (Go.Code.region id ops true).wpIn (Fence.wide.inRound y) n' P Q a w := by
  subst hn
  subst hl
  exact wpIn_region_any hm (any_round y n' hnd hlo _ _ _ _ (wpAny_of_last _ _ _ _ (h hS)))
end
end Go.Proofs.YtajccgmeminlhaaGreatDoor
end
section
/- solomon.Decode: walk. -/
set_option linter.unusedVariables false
set_option linter.unusedSimpArgs false
namespace Go.Proofs.YtajccgmeminlhaaGreatDoor
open Go.RowKit Go.Shelf Go.Proofs.YtajccgmeminlhaaGreatDoorW.PrintWords Go.Proofs.YtajccgmeminlhaaGreatDoorW.PrintLast Go.Proofs.YtajccgmeminlhaaGreatDoor.Q Go.Proofs.YtajccgmeminlhaaGreatDoor.Gf

theorem guesses_any (A : Option Addr) (n c : Nat) (w : World) :
    Calls Tryz.prog 80 #[.slice A n c] w fun e w' => e = .returned (.func (.func 117) #[] #[.pointer (some ⟨w.heap.size, 0, none⟩)]) ∧ w.alloc (.cells #[.slice A n c] 48) = w' := by
  have hmf : ∀ (fn : Fn) (first cap : Array Value) (w : World), (Instr.makeFunc fn first cap).run Tryz.prog w = .ok (.func fn first cap) w := fun _ _ _ _ => rfl
  go_enter Tryz.func80, Tryz.ntmps80
  go_wp2
  go_ret
  exact ⟨rfl, rfl⟩
/-- All blocks of cells are as they were. -/
def KeepC (W W' : World) : Prop := W.heap.size ≤ W'.heap.size ∧ ∀ (b : Nat) (o : Obj), W.heap[b]? = some o → o.isCells = true → W'.heap[b]? = some o
theorem KeepC.refl (W : World) : KeepC W W := ⟨Nat.le_refl _, fun _ _ h _ => h⟩
theorem KeepC.putObj {W X : World} (h : KeepC W X) {k : Nat} {o : Obj} (o' : Obj) (hk : X.heap[k]? = some o) (ho : o.isCells = false) : KeepC W (X.putObj k o') := by
  refine ⟨by simpa using h.1, fun b q hb hq => ?_⟩
  have hx := h.2 b q hb hq
  have hne : b ≠ k := fun e => by
    subst e
    rw [hx] at hk
    cases hk
    rw [ho] at hq
    cases hq
  exact (World.putObj_heap_other hne).trans hx
theorem KeepC.blk {W W' : World} (h : KeepC W W') {p : Addr} {v : Value} (hc : W.cell? p = some v) : W'.heap[p.block]? = W.heap[p.block]? := by
  cases hb : W.heap[p.block]? with
  | none =>
    unfold World.cell? at hc
    rw [hb] at hc
    simp at hc
  | some o =>
    refine h.2 _ o hb ?_
    unfold World.cell? at hc
    rw [hb] at hc
    cases o <;> simp [Obj.isCells] at hc ⊢
theorem KeepC.cell {W W' : World} (h : KeepC W W') {p : Addr} {v : Value} (hc : W.cell? p = some v) : W'.cell? p = some v := (World.cell?_of_block (h.blk hc)).trans hc
theorem KeepC.frozen {W W' : World} (h : KeepC W W') {p : Addr} {v : Value} (hc : W.cell? p = some v) (hf : W.frozen? p = false) : W'.frozen? p = false := by
  unfold World.frozen? at hf ⊢
  rw [h.blk hc]
  exact hf
theorem CRow.keepC {α : Type} {enc : α → Value} {d : α} {W W' : World} {g : Nat} {L : List α} (h : CRow enc d W g L) (hk : KeepC W W') : CRow enc d W' g L :=
  ⟨Nat.lt_of_lt_of_le h.lt hk.1, fun j hj => hk.cell (h.cell j hj), fun j hj => hk.frozen (h.cell j hj) (h.free j hj)⟩
theorem Own.keepC {k : IntKind} {e : TypeId} {W W' : World} {base : Nat} {v : Value} {l : List Int} (h : Own k e W base v l) (hk : KeepC W W') : Own k e W' base v l := by
  refine ⟨h.1, ?_⟩
  rcases h.2 with hn | ⟨g, cap, cur, hv, hb, hg, rest⟩
  · exact .inl hn
  · exact .inr ⟨g, cap, cur, hv, hb, hk.2 _ _ hg rfl, rest⟩
/-- What Decode answers. -/
def DecS (l : List G) (P : List Nat) : Option (List G × List Int) → Prop
  | none => ∀ g ∈ guessL (modL l P), Bad l P g
  | some (x, er) => ∃ g ∈ guessL (modL l P), Good l P g x er
/-- How Decode hands its answer over. -/
def DecR (B : Nat) (W : World) (e : Ending) : Option (List G × List Int) → Prop
  | none => e = .returned (.tuple #[.agg #[.slice none 0 0, .slice none 0 0], .int .i64 190])
  | some (x, er) => ∃ g c v, e = .returned (.tuple #[.agg #[.slice (some ⟨g, 0, none⟩) x.length c, v], .int .i64 0]) ∧ x.length ≤ c ∧ B ≤ g ∧ CRow (Value.int .u8) 0 W g (ns x) ∧ Own .i64 3 W B v er
/-- The world in which Decode has stored its answer. -/
def DecX (l : List G) (P : List Nat) (w : World) (X : World) : Prop :=
  ∃ x er g c v, (∃ q ∈ guessL (modL l P), Good l P q x er) ∧ X.heap[w.heap.size + 1 + 1]? = some (.cells #[.slice (some ⟨g, 0, none⟩) x.length c, v] 100 (0, 0)) ∧ X.cell? ⟨w.heap.size + 1 + 1 + 1, 0, none⟩ = some (.int .i64 0) ∧ x.length ≤ c ∧ w.heap.size ≤ g ∧ CRow (Value.int .u8) 0 X g (ns x) ∧ Own .i64 3 X w.heap.size v er ∧ Below w.heap.size w X
theorem DecX.putObj {l : List G} {P : List Nat} {w X : World} (h : DecX l P w X) {k : Nat} {o : Obj} (o' : Obj) (hk : X.heap[k]? = some o) (ho : o.isCells = false) (hw : w.heap.size ≤ k) : DecX l P w (X.putObj k o') := by
  obtain ⟨x, er, g, c, v, h1, h2, h3, h4, h5, h6, h7, h8⟩ := h
  have hK := (KeepC.refl X).putObj o' hk ho
  exact ⟨x, er, g, c, v, h1, hK.2 _ _ h2 rfl, hK.cell h3, h4, h5, h6.keepC hK, h7.keepC hK, h8.grown (grownBy_putObj' X k o') h8.size (fun j e => by cases e; exact hw)⟩
theorem is_getD (P : List Nat) (i : Nat) : (is P).getD i 0 = ((P.getD i 0 : Nat) : Int) := by
  have := is_rd P i
  unfold rd at this
  rwa [Int.toNat_natCast] at this
theorem is_mem (P : List Nat) (p : Nat) : (p : Int) ∈ is P ↔ p ∈ P := by
  unfold is
  rw [List.mem_map]
  constructor
  · rintro ⟨q, hq, he⟩
    have : q = p := by omega
    rw [← this]; exact hq
  · exact fun h => ⟨p, h, rfl⟩
theorem is_take (P : List Nat) (k : Nat) : (is P).take k = is (P.take k) := by unfold is; rw [List.map_take]
theorem okAt_is {N : Nat} {P : List Nat} (hb : ∀ p ∈ P, p < N) (hd : P.Nodup) (i : Nat) (hi : i < P.length) : okAt N (is P) i := by
  unfold okAt
  rw [is_getD, is_take, is_mem]
  refine ⟨by omega, by have := hb _ (getD_mem0 hi); omega, fun hm => ?_⟩
  obtain ⟨j, hj, he⟩ := mem_getD hm
  rw [List.length_take] at hj
  have e2 : (P.take i).getD j 0 = P.getD j 0 := by
    rw [List.getD_eq_getElem?_getD, List.getD_eq_getElem?_getD, List.getElem?_take, if_pos (by omega)]
  rw [e2] at he
  have := nodup_getD hd (by omega) hi he
  omega
section
variable {F : Fence} {n : Nat} {P : Program} {ops : Array Oper} {rest : List Oper} {o : Oper} {a : Act} {Q : Exit → Act → World → Prop}
theorem gate_in {b : Builtin} {xs : Array Operand} {ts : Array TypeId} {W : World} (_ho : o.op = .call { callee := .builtin b, args := xs, argTypes := ts }) (h : wpListIn F n P ops Q (o :: rest) a W) : wpListIn F n P ops Q (o :: rest) a W := h
theorem in_append_num {w0 W : World} (base : Nat) (hgd : o.guard = none) (s x : Operand) (t e : TypeId) (k : IntKind) (bytes : Nat)
    (ho : o.op = .call { callee := .builtin .append, args := #[s, x], argTypes := #[t, t] })
    (ht : P.underlying t = some (.slice e)) (hinfo : (P.info? e).map (fun i => (i.zero, i.size, i.bytes)) = some (some (.int k 0), 1, bytes)) (hb0 : 0 < bytes)
    (v : Value) (xs : List Int) (y : Int) (hs : a.eval s = v) (hx : a.eval x = .slice (some ⟨W.heap.size, 0, none⟩) 1 1)
    (HO : W.ownsRow base e 1 v xs.length (nums k xs)) (HB : Below base w0 W) (hbase : base ≤ W.heap.size) (hl : (xs.length + 1) * bytes ≤ 140737488355328)
    (h : ∀ v1 w1, w1.ownsRow base e 1 v1 (xs ++ [y]).length (nums k (xs ++ [y])) → Below base w0 w1 → W.grownBy w1 v.ownBlock → wpListIn F n P ops Q rest (a.put o.dst v1) w1) :
    wpListIn F n P ops Q (o :: rest) a (W.alloc (.cells #[.int k y] e)) := by
  obtain ⟨i0, hi, hzz⟩ := Option.map_eq_some_iff.1 hinfo
  simp only [Prod.mk.injEq] at hzz
  obtain ⟨hz0, hz1, hz2⟩ := hzz
  have hlen : xs.length + 1 ≤ 140737488355328 := Nat.le_trans (Nat.le_mul_of_pos_right _ hb0) hl
  refine wpListIn_append_own (W.alloc (.cells #[.int k y] e)) hgd s x t ho base e i0 (.int k 0) 1 bytes ht hi hz0 hz1 hz2 rfl (by omega) v xs.length (nums k xs) hs (HO.alloc _) ⟨W.heap.size, 0, none⟩ 1 1 [.int k y] hx rfl
    (World.news_of_block (cs := #[.int k y]) (t := e) (fr := (0, 0)) (heap_alloc_new W _)) (by simp [Value.oneCell']) (by simp only [maxLen]; omega) hl (by simp; omega) ?_
  intro v1 w1 hown hg _
  exact h v1 w1 (by simpa [nums] using hown) ((HB.alloc hbase _).grown hg (by simp; omega) (own_base HO)) (World.grownBy.trans (World.grownBy_alloc W _ _) hg)
end
def errsK (s : Nat) (P : List Nat) (o : List G) (k : Nat) : List Nat := ((List.range k).filter fun i => decide (s ≤ i) && decide (o.getD i 0 ≠ 0)).map fun i => P.getD i 0
theorem errsK_succ (s : Nat) (P : List Nat) (o : List G) (k : Nat) : errsK s P o (k + 1) = errsK s P o k ++ (if s ≤ k ∧ o.getD k 0 ≠ 0 then [P.getD k 0] else []) := by
  unfold errsK
  rw [List.range_succ, List.filter_append, List.map_append]
  congr 1
  by_cases hc : s ≤ k ∧ o.getD k 0 ≠ 0
  · have h1 : (decide (s ≤ k) && decide (o.getD k 0 ≠ 0)) = true := by rw [Bool.and_eq_true, decide_eq_true_eq, decide_eq_true_eq]; exact hc
    rw [if_pos hc, List.filter_cons, if_pos h1]
    rfl
  · have h1 : ¬ ((decide (s ≤ k) && decide (o.getD k 0 ≠ 0)) = true) := by rw [Bool.and_eq_true, decide_eq_true_eq, decide_eq_true_eq]; exact hc
    rw [if_neg hc, List.filter_cons, if_neg h1]
    rfl
theorem errsK_le (s : Nat) (P : List Nat) (o : List G) (k : Nat) : (errsK s P o k).length ≤ k := by
  unfold errsK
  rw [List.length_map]
  exact Nat.le_trans (List.length_filter_le _ _) (by simp)
theorem Own.base_le {k : IntKind} {e : TypeId} {W : World} {base base' : Nat} {v : Value} {l : List Int} (h : Own k e W base v l) (hb : base' ≤ base) : Own k e W base' v l := by
  refine ⟨h.1, ?_⟩
  rcases h.2 with hn | ⟨g, cap, cur, hv, hg, rest⟩
  · exact .inl hn
  · exact .inr ⟨g, cap, cur, hv, Nat.le_trans hb hg, rest⟩
theorem Own.set {k : IntKind} {e : TypeId} {W : World} {base : Nat} {v : Value} {l : List Int} (h : Own k e W base v l) (g i : Nat) (x : Value) (hg : g < base) : Own k e (W.setCell ⟨g, i, none⟩ x) base v l := own_set h g i x hg
theorem Own.noblock {k : IntKind} {e : TypeId} {W : World} {base : Nat} {v : Value} {l : List Int} (h : Own k e W base v l) {g : Nat} (hg : g < base) : some g ≠ v.ownBlock := fun he => by
  have := own_base h g he.symm
  omega
theorem drop_cons_getD (gl : List G) (k : Nat) (h : k < gl.length) : gl.drop k = gl.getD k 0 :: gl.drop (k + 1) := by
  rw [List.drop_eq_getElem_cons h, List.getD_eq_getElem?_getD, List.getElem?_eq_getElem h]
  rfl
attribute [local go_sem] Oper.semAt_some
set_option maxHeartbeats 16000000 in
set_option maxRecDepth 1000000 in
theorem Dec_main (A : Option Addr) (c : Nat) (l : List G) (A1 : Option Addr) (c1 : Nat) (P : List Nat) (w : World) (hp : PW w) (hr : Kd.C (Kd.int .u8) w A l.length (ns l)) (hc : l.length ≤ c) (h4 : 4 < l.length) (hn : l.length ≤ 63) (hr1 : Kd.C (Kd.int .i64) w A1 P.length (is P)) (hc1 : P.length ≤ c1) (hn1 : P.length ≤ 4) (hPb : ∀ p ∈ P, p < l.length) (hPd : P.Nodup) :
    Calls Tryz.prog 45 #[.slice A l.length c, .slice A1 P.length c1] w fun e w' => ∃ r, DecS l P r ∧ DecR w.heap.size w' e r ∧ Below w.heap.size w w' := by
  obtain ⟨W, hW⟩ : ∃ W, (((w.alloc (.cells #[.slice A l.length c] 48)).alloc (.cells #[.slice A1 P.length c1] 29)).alloc (.cells #[.slice none 0 0, .slice none 0 0] 100)).alloc (.cells #[.int .i64 0] 26) = W := ⟨_, rfl⟩
  have hD := decW w (.slice A l.length c) (.slice A1 P.length c1)
  rw [hW] at hD
  have HD := Aside0.mk hD
  have hw := word_any A c (ns l) W (by rw [ns_length]; exact Kd.C_below hr hD.below) (by rw [ns_length]; exact hc) (by rw [ns_length]; omega)
  rw [word_yes l h4 hn, ns_length] at hw
  have HW := Aside0.mk hw
  have HR := Aside0.mk (Kd.C_below hr hD.below)
  have HR1 := Aside0.mk (Kd.C_below hr1 hD.below)
  have HP := Aside0.mk (hp.below hD.below)
  have HPB := Aside0.mk hPb
  have HPD := Aside0.mk hPd
  have hc0 := hD.b0.cell
  have hc1' := hD.b1.cell
  clear hr hD hw hr1 hp hPb hPd
  refine (callsIn_wide (n := 6)).1 ?_
  refine callsIn_of_wp_marks Tryz.func45 rfl trivial ?_ rfl
  simp only [Tryz.ntmps45, List.size_toArray, List.length_cons, List.length_nil, Nat.reduceAdd, Nat.reduceSub, Array.replicate_succ, Array.replicate_zero, List.push_toArray, List.append_toArray, List.nil_append, List.cons_append]
  gi_wp2
  refine wpIn_wide.2 (wp_scope_straight ((wpIn_wide (n := 6)).1 ?_))
  gi_wp2
  refine ⟨trivial, callsIn_wide.2 (HW.out.mono ?_)⟩
  rintro e w1 ⟨rfl, rfl⟩
  gi_wp2
  gi_loopw [26] (fun i wr => ∃ k : Nat, k ≤ P.length ∧ i = .int .i64 k ∧ Below w1.heap.size w1 wr) (fun i _ => P.length - (intOf i).toNat)
  case atStart => exact ⟨0, Nat.zero_le _, rfl, Below.refl _ _⟩
  case round =>
    obtain ⟨k, hk, rfl, hB⟩ := hrel
    have HB := Aside0.mk hB
    have hDr := HD.out.step hB
    have HDr := Aside0.mk hDr
    have hc0r := hDr.b0.cell
    have hc1r := hDr.b1.cell
    have HRr := Aside0.mk (Kd.C_below HR1.out hB)
    clear hB hDr
    by_cases hpk : k < P.length
    · obtain ⟨ad, hA1, hx⟩ := Kd.at_int HRr.out k (by omega) (by omega)
      have hrl : Kd.C (Kd.int .i64) wr A1 (is P).length (is P) := by rw [is_length]; exact HRr.out
      have HTK := Aside0.mk (Kd.C_take hrl (m := k) (by rw [is_length]; omega))
      rw [is_rd, Int.toNat_natCast] at hx
      have HTL := Aside0.mk (show ((is P).take k).length = k by rw [List.length_take, is_length]; omega)
      have hkc : k ≤ c1 := by omega
      obtain ⟨o1, o2, o3⟩ := okAt_is HPB.out HPD.out k hpk
      rw [is_getD] at o1 o2 o3
      subst hA1
      have HCO := Aside0.mk (slices_Contains_int_int.calls 1001 (some ad) c1 ((is P).take k) ((P.getD k 0 : Nat) : Int) _ wr HTK.out (by rw [HTL.out]; exact hkc) (contains_f ((is P).take k) _ (by rw [HTL.out]; omega)))
      rw [HTL.out, decide_eq_false o3] at HCO
      generalize P.getD k 0 = x at hx o1 o2 HCO
      have o4 : ¬ ((x : Int) < 0) := by omega
      clear o3 hrl
      gi_wp2
      refine ⟨trivial, callsIn_wide.2 (HCO.out.mono ?_)⟩
      rintro e w3 ⟨rfl, hd3⟩
      have HB3 := Aside0.mk (HB.out.trans (hd3.below.mono HB.out.size))
      clear hd3
      gi_wp2
      go_roundw
      case rel => exact ⟨k + 1, by omega, by go_num, HB3.out⟩
      case measure => simp [intOf]; omega
    · obtain rfl : k = P.length := by omega
      have h5i : ¬ ((4 : Int) < (P.length : Int)) := by omega
      have HM := Aside0.mk (modified_any A c l A1 c1 P wr (HP.out.below HB.out) (Kd.C_below HR.out HB.out) hc hn HRr.out hc1 hn1 HPB.out)
      gi_wp2
      refine wpIn_wide.2 (wp_label ?_)
      gi_wp2
      refine ⟨trivial, callsIn_wide.2 (HM.out.mono ?_)⟩
      rintro e w4 ⟨ga, oa, c4, rfl, hc4, hr4, hb4⟩
      have HR4 := Aside0.mk hr4
      have HB4 := Aside0.mk (HB.out.trans (hb4.mono HB.out.size))
      clear hr4 hb4
      gi_wp2
      refine ⟨trivial, callsIn_wide.2 ((guesses_any (some ⟨ga, oa, none⟩) (4 - P.length) c4 w4).mono ?_)⟩
      rintro e w5 ⟨rfl, hw5⟩
      have hbx5 : Boxed w5 w4.heap.size 48 (.slice (some ⟨ga, oa, none⟩) (modL l P).length c4) := by rw [← hw5, modL_length]; exact Boxed.new w4 48 _
      have hb45 : Below w4.heap.size w4 w5 := by rw [← hw5]; exact (Below.refl _ _).alloc (Nat.le_refl _) _
      have HB5 := Aside0.mk (HB4.out.trans (hb45.mono HB4.out.size))
      have HD5 := Aside0.mk (HD.out.step HB5.out)
      have HG := Aside0.mk (guess1 5 (by omega) (modL l P) (by rw [modL_length]; omega) ga oa c4 w4 (by rw [modL_length]; exact HR4.out) w4.heap.size w5 hb45 (HP.out.below HB5.out) hbx5)
      have HZ5 := Aside0.mk (show w1.heap.size ≤ w5.heap.size from HB5.out.size)
      clear hbx5 hb45 hw5
      gi_wp2
      refine rangeGF (fun v t => (t.setIfInBounds 56 v).setIfInBounds 8 v) (by omega) (gf := 117) (lb := #[.pointer (some ⟨w4.heap.size, 0, none⟩)]) rfl (enters_of Tryz.func117 (by kernel_rfl) rfl) HG.out (Below.refl _ _) rfl
        (fun i => ∀ j, j < i → Bad l P ((guessL (modL l P)).getD j [])) (DecX l P w) (fun X k o o' hX hk ho hc => hX.putObj o' ho hc (by have := HZ5.out; have := HD5.out.size; omega)) (fun j hj => by omega) ?assign ?body ?done ?stop
      case assign =>
        intro y B b L X K hK
        simp only [List.zip_toArray, List.zip_cons_cons, List.zip_nil_left, List.foldl_toArray, List.foldl_cons, List.foldl_nil, List.setIfInBounds_toArray, List.set_cons_succ, List.set_cons_zero] at hK ⊢
        gi_wp2
        exact hK
      case body =>
        intro y i B b X hi hbX hszX hphi hcb hrb
        obtain ⟨gl, hgl⟩ : ∃ gl, (guessL (modL l P)).getD i [] = gl := ⟨_, rfl⟩
        have hmem : gl ∈ guessL (modL l P) := by
          rw [← hgl, List.getD_eq_getElem?_getD, List.getElem?_eq_getElem hi]
          exact List.getElem_mem hi
        have hgl2 := guess_len (by rw [modL_length]; omega) hmem
        rw [modL_length] at hgl2
        have HNX : Aside0 (Bad l P gl → ∀ j, j < i + 1 → Bad l P ((guessL (modL l P)).getD j [])) := ⟨fun hb j hj => by
          by_cases e : j = i
          · rw [e, hgl]; exact hb
          · exact hphi j (by omega)⟩
        rw [hgl] at hcb hrb ⊢
        have HMEM := Aside0.mk hmem
        have HRB := Aside0.mk hrb
        have hDX := HD5.out.step hbX
        have HDX := Aside0.mk hDX
        have hcx0 := hDX.b0.cell
        have hcx1 := hDX.b1.cell
        have HPX := Aside0.mk (HP.out.below (HB5.out.trans (hbX.mono HB5.out.size)))
        have hRX1 := Kd.C_below HR1.out (HB5.out.trans (hbX.mono HB5.out.size))
        have HRX := Aside0.mk (Kd.C_below HR.out (HB5.out.trans (hbX.mono HB5.out.size)))
        have HCL := clone_int A1 c1 (is P) X (by rw [is_length]; exact hRX1) (by rw [is_length]; exact hc1) (by rw [is_length]; omega)
        rw [is_length] at HCL
        have HCL := Aside0.mk HCL
        clear hmem hrb hDX hRX1 hgl hphi hbX
        simp only [List.setIfInBounds_toArray, List.set_cons_succ, List.set_cons_zero]
        gi_wp2
        refine ⟨trivial, CallsIn.inRound y (callsIn_wide.2 (HCL.out.mono ?_))⟩
        rintro e X1 ⟨v, rfl, ho, hb1⟩
        have HO1 := Aside0.mk ho
        have HB1 := Aside0.mk hb1
        clear ho hb1 HCL
        gi_wp2
        gi_loopw [9, 61] (fun v k wr => ∃ (k' : Nat) (Pk : List Nat), k' ≤ gl.length ∧ k = .int .i64 k' ∧ Own .i64 3 wr X.heap.size v (is Pk) ∧ addP l.length P gl = addP l.length Pk (gl.drop k') ∧ Pk.length = P.length + k' ∧ Below X.heap.size X wr) (fun _ k _ => gl.length - (intOf k).toNat)
        case atStart => exact ⟨0, P, Nat.zero_le _, rfl, HO1.out, by rw [List.drop_zero], rfl, HB1.out⟩
        case round =>
          obtain ⟨k, Pk, hk, rfl, hO, hadd, hPk, hB⟩ := hrel
          have HO := Aside0.mk hO
          have HADD := Aside0.mk hadd
          have HBr := Aside0.mk hB
          have hDr := HDX.out.step hB
          have HDr := Aside0.mk hDr
          have hcr0 := hDr.b0.cell
          have hcr1 := hDr.b1.cell
          have HPr := Aside0.mk (HPX.out.below hB)
          have HSr := Aside0.mk hB.size
          have hRBr := Kd.C_below HRB.out hB
          clear hO hadd hB hDr
          by_cases hpk : k < gl.length
          · obtain ⟨ad, hA1, hx⟩ := Kd.at_int hRBr k (by omega) (by omega)
            rw [ns_rd, Int.toNat_natCast] at hx
            have HDC := Aside0.mk (drop_cons_getD gl k hpk)
            generalize gl.getD k 0 = x at hx HDC
            subst hA1
            have HBAD : Aside0 (addP l.length Pk (x :: gl.drop (k + 1)) = none → ∀ j, j < i + 1 → Bad l P ((guessL (modL l P)).getD j [])) := ⟨fun h => HNX.out (fun P' hP' => by rw [HADD.out, HDC.out, h] at hP'; cases hP')⟩
            by_cases hx0 : x.n = 0
            · have HBD := Aside0.mk (HBAD.out (by rw [addP, if_pos hx0]))
              have HLG := Aside0.mk (Log_zero x wr hx0)
              clear hx0
              gi_wp2
              refine ⟨trivial, CallsIn.inRound y (callsIn_wide.2 (HLG.out.mono ?_))⟩
              rintro e w7 ⟨rfl, hd7⟩
              have HD7 := Aside0.mk (HDr.out.step hd7.below)
              have hcr0 := HD7.out.b0.cell
              have HB7 := Aside0.mk (HBr.out.trans (hd7.below.mono HSr.out))
              clear hd7
              gi_wp2
              refine ⟨trivial, ?_⟩
              gi_wp2
              exact ⟨HB7.out, HBD.out⟩
            · have HLG := Aside0.mk (Log_any x wr HPr.out hx0)
              have HAP := Aside0.mk (show addP l.length Pk (x :: gl.drop (k + 1)) = if l.length < lgN x.n + 1 then none else if (l.length - 1 - lgN x.n) ∈ Pk then none else addP l.length (Pk ++ [l.length - 1 - lgN x.n]) (gl.drop (k + 1)) by rw [addP, if_neg hx0])
              have hlgb := (lg_at x.n x.lt hx0).1
              generalize lgN x.n = q at HLG HAP hlgb
              clear hx0
              gi_wp2
              refine ⟨trivial, CallsIn.inRound y (callsIn_wide.2 (HLG.out.mono ?_))⟩
              rintro e w7 ⟨rfl, hd7⟩
              have HD7 := Aside0.mk (HDr.out.step hd7.below)
              have hcr0 := HD7.out.b0.cell
              have HB7 := Aside0.mk (HBr.out.trans (hd7.below.mono HSr.out))
              have HO7 := Aside0.mk (HO.out.below hd7.below)
              clear hd7
              have hqi : (0 : Int) ≤ (q : Int) ∧ (q : Int) < 63 := by omega
              have hli : (4 : Int) < (l.length : Int) ∧ (l.length : Int) ≤ 63 := by omega
              by_cases hneg : l.length < q + 1
              · have HBD := Aside0.mk (HBAD.out (by rw [HAP.out, if_pos hneg]))
                have hni : (l.length : Int) - 1 - (q : Int) < 0 := by omega
                gi_wp2
                refine ⟨trivial, ?_⟩
                gi_wp2
                exact ⟨HB7.out, HBD.out⟩
              · have hni : ¬ ((l.length : Int) - 1 - (q : Int) < 0) := by omega
                obtain ⟨p, hp⟩ : ∃ p : Nat, p = l.length - 1 - q := ⟨_, rfl⟩
                have hpi : (l.length : Int) - 1 - (q : Int) = (p : Int) := by omega
                obtain ⟨AO, cO, hv, hcO, hrO⟩ := Kd.R_reads HO7.out.toR
                subst hv
                have HCO := Aside0.mk (slices_Contains_int_int.calls 1001 AO cO (is Pk) (p : Int) _ w7 hrO hcO (contains_f (is Pk) _ (by rw [is_length]; omega)))
                have hmm : decide ((p : Int) ∈ is Pk) = decide (p ∈ Pk) := decide_eq_decide.2 (is_mem Pk p)
                rw [hmm] at HCO
                rw [← hp] at HAP
                clear hmm hrO hp
                by_cases hpm : p ∈ Pk
                · have HBD := Aside0.mk (HBAD.out (by rw [HAP.out, if_neg hneg, if_pos hpm]))
                  rw [decide_eq_true hpm] at HCO
                  gi_wp2
                  refine ⟨trivial, CallsIn.inRound y (callsIn_wide.2 (HCO.out.mono ?_))⟩
                  rintro e w8 ⟨rfl, hd8⟩
                  have HB8 := Aside0.mk (HB7.out.trans (hd8.below.mono HB7.out.size))
                  clear hd8
                  gi_wp2
                  exact ⟨HB8.out, HBD.out⟩
                · have HADD2 := Aside0.mk (show addP l.length P gl = addP l.length (Pk ++ [p]) (gl.drop (k + 1)) by rw [HADD.out, HDC.out, HAP.out, if_neg hneg, if_neg hpm])
                  rw [decide_eq_false hpm] at HCO
                  gi_wp2
                  refine ⟨trivial, CallsIn.inRound y (callsIn_wide.2 (HCO.out.mono ?_))⟩
                  rintro e w8 ⟨rfl, hd8⟩
                  have HB8 := Aside0.mk (HB7.out.trans (hd8.below.mono HB7.out.size))
                  have HO8 := Aside0.mk (HO7.out.below hd8.below)
                  have HS8 := Aside0.mk HB8.out.size
                  have HL8 := Aside0.mk (show ((is Pk).length + 1) * 8 ≤ 140737488355328 by rw [is_length]; omega)
                  have HIS := Aside0.mk (show is (Pk ++ [p]) = is Pk ++ [(p : Int)] by unfold is; rw [List.map_append]; rfl)
                  clear hd8
                  gi_wp2_with ((with_reducible refine gate_in (b := .append) rfl ?_); (refine in_append_num (w0 := X) X.heap.size rfl _ _ 29 3 .i64 8 rfl Tryz.underlying29 info_int (by decide) (.slice AO (is Pk).length cO) (is Pk) _ rfl rfl HO8.out HB8.out HS8.out HL8.out ?_); intro v9 w9 hown hB9 hg; have HO9 := Aside0.mk hown; have HB9 := Aside0.mk hB9; clear hown hB9 hg)
                  go_roundw
                  case rel => exact ⟨k + 1, Pk ++ [p], by omega, by go_num, by rw [HIS.out]; exact HO9.out, HADD2.out, by rw [List.length_append, hPk]; simp; omega, HB9.out⟩
                  case measure => simp [intOf]; omega
          · have hke : k = gl.length := by omega
            have hki : ¬ ((k : Int) < (gl.length : Int)) := by omega
            have hPs : addP l.length P gl = some Pk := by
              rw [HADD.out, hke, List.drop_length]
              rfl
            obtain ⟨Qk, hPQ, hnd, hQl, hQb⟩ := addP_spec l.length gl P Pk hPs HPD.out
            have hPkb : ∀ p ∈ Pk, p < l.length := fun p hp => by
              rw [hPQ] at hp
              exact (List.mem_append.1 hp).elim (HPB.out p) (hQb p)
            have hQ2 : Pk.length = P.length + Qk.length := by rw [hPQ, List.length_append]
            obtain ⟨AO, cO, hv, hcO, hrO⟩ := Kd.R_reads HO.out.toR
            subst hv
            rw [is_length] at hcO hrO ⊢
            have HSO := Aside0.mk (solve_any A c l AO cO Pk wr HPr.out (Kd.C_below HRX.out HBr.out) hc hn hrO hcO (by omega) hPkb hnd)
            have HPS := Aside0.mk hPs
            have HPKB := Aside0.mk hPkb
            have HQL := Aside0.mk (show Qk.length ≤ 2 by omega)
            have HQ2 := Aside0.mk hQ2
            have HRO := Aside0.mk hrO
            have hpk4 : Pk.length ≤ 4 := by omega
            have HPKL := Aside0.mk hPk
            have HQl := Aside0.mk hQl
            have HKE := Aside0.mk hke
            clear hPQ hnd hQb hPs hPkb hrO hQ2 hPk hQl hke
            gi_wp2
            refine ⟨trivial, CallsIn.inRound y (callsIn_wide.2 (HSO.out.mono ?_))⟩
            rintro e w7 ⟨r, hS, hR, hb7⟩
            have HB7 := Aside0.mk (HBr.out.trans (hb7.mono HSr.out))
            cases r with
            | none =>
              have hR' : e = .returned (.tuple #[.slice none 0 0, .bool false]) := hR
              subst hR'
              have HBD := Aside0.mk (HNX.out (fun P' hP' o ho hco => by
                rw [HPS.out] at hP'
                cases hP'
                exact hS.2 _ ((lin_syn HPKB.out ho).2 hco)))
              clear hS hR hb7
              gi_wp2
              exact ⟨HB7.out, HBD.out⟩
            | some o =>
              obtain ⟨go, co, rfl, hco, hgo, hro⟩ := hR
              have hol : o.length = Pk.length := hS.1
              have HGOOD := Aside0.mk (show Good l P gl (addAt l Pk o) (sort2 (is (errsOf P.length Pk o))) from ⟨Pk, o, HPS.out, hol, (lin_syn HPKB.out hol).1 hS.2, rfl, rfl⟩)
              have HOL := Aside0.mk hol
              have HVO := Aside0.mk hro
              have HD7 := Aside0.mk (HDX.out.step HB7.out)
              have hcr0 := HD7.out.b0.cell
              have hcr1 := HD7.out.b1.cell
              have HRO7 := Aside0.mk (Kd.C_below HRO.out hb7)
              have hcl := clone_u8 A c (ns l) w7 (by rw [ns_length]; exact Kd.C_below HRX.out HB7.out) (by rw [ns_length]; exact hc) (by rw [ns_length]; omega)
              rw [ns_length] at hcl
              have HCL := Aside0.mk hcl
              rw [hol] at hco ⊢
              clear hS hro hb7 hcl hol HSO
              gi_wp2
              refine ⟨trivial, CallsIn.inRound y (callsIn_wide.2 (HCL.out.mono ?_))⟩
              rintro e w8 ⟨v8, rfl, ho8, hb8⟩
              obtain ⟨gw, cw, rfl, hcw, hgw, hrow⟩ := own_crow ho8 (by rw [ns_length]; omega)
              rw [ns_length] at hcw ⊢
              have HWR := Aside0.mk hrow
              have HB8 := Aside0.mk hb8
              have HGW := Aside0.mk hgw
              clear ho8 hb8 hrow hgw HCL
              gi_wp2
              obtain ⟨w9, hw9⟩ : ∃ w9, w8.alloc (.cells #[.slice (some ⟨gw, 0, none⟩) l.length cw, .slice none 0 0] 100) = w9 := ⟨_, rfl⟩
              have hb9 : Below w8.heap.size w8 w9 := by rw [← hw9]; exact (Below.refl _ _).alloc (Nat.le_refl _) _
              have hF9 : w9.heap[w8.heap.size]? = some (.cells #[.slice (some ⟨gw, 0, none⟩) l.length cw, .slice none 0 0] 100 (0, 0)) := by rw [← hw9]; exact heap_alloc_new w8 _
              have hz9 : w9.heap.size = w8.heap.size + 1 := by rw [← hw9]; simp
              have hgl8 := HWR.out.lt
              rw [hw9]
              obtain ⟨gf, hgf⟩ : ∃ gf, w8.heap.size = gf := ⟨_, rfl⟩
              have HW9 := Aside0.mk (HWR.out.below hb9)
              have HB9 := Aside0.mk (HB8.out.trans (hb9.mono HB8.out.size))
              rw [hgf] at hF9 hz9 hgl8 ⊢
              have HF9 := Aside0.mk hF9
              have HZ9 := Aside0.mk hz9
              have HGL8 := Aside0.mk hgl8
              have HWF := Aside0.mk (show w7.heap.size ≤ gf by rw [← hgf]; exact HB8.out.size)
              clear hw9 hb9 hF9 hz9 hgf hgl8
              gi_loopw [104] (fun i wr => ∃ (k : Nat) (ev : Value), k ≤ Pk.length ∧ i = .int .i64 k ∧ Own .i64 3 wr (gf + 1) ev (is (errsK P.length Pk o k)) ∧ wr.heap[gf]? = some (.cells #[.slice (some ⟨gw, 0, none⟩) l.length cw, ev] 100 (0, 0)) ∧ CRow (Value.int .u8) 0 wr gw (ns (addAt l (Pk.take k) (o.take k))) ∧ Below w7.heap.size w7 wr) (fun i _ => Pk.length - (intOf i).toNat)
              case atStart => exact ⟨0, .slice none 0 0, Nat.zero_le _, rfl, World.ownsRow_nil _ _ _ _, HF9.out, HW9.out, HB9.out⟩
              case round =>
                rename_i wr0
                obtain ⟨k, ev, hk, rfl, hE, hF, hA, hB⟩ := hrel
                have HE := Aside0.mk hE
                have HF := Aside0.mk hF
                have HA := Aside0.mk hA
                have HBk := Aside0.mk hB
                have hfc0 : wr.cell? ⟨gf, 0, none⟩ = some (.slice (some ⟨gw, 0, none⟩) l.length cw) := by unfold World.cell?; rw [hF]; simp
                have hfc1 : wr.cell? ⟨gf, 1, none⟩ = some ev := by unfold World.cell?; rw [hF]; simp
                have hff1 : wr.frozen? ⟨gf, 1, none⟩ = false := by unfold World.frozen?; rw [hF]; simp
                have HDk := Aside0.mk (HDX.out.step (HB7.out.trans (hB.mono HB7.out.size)))
                have hcr1 := HDk.out.b1.cell
                have hRk := Kd.C_below HRO7.out hB
                have HVk := Aside0.mk (HVO.out.below hB)
                clear hE hF hA hB
                by_cases hpk : k < Pk.length
                · obtain ⟨ad, hA1, hx⟩ := Kd.at_int hRk k (by omega) (by omega)
                  rw [is_rd, Int.toNat_natCast] at hx
                  subst hA1
                  have hpl : Pk.getD k 0 < l.length := HPKB.out _ (getD_mem0 hpk)
                  have HES := Aside0.mk (errsK_succ P.length Pk o k)
                  have hal : (addAt l (Pk.take k) (o.take k)).length = l.length := addAt_length _ _ _
                  have hst := addAt_step Pk l o k hpk HOL.out
                  generalize Pk.getD k 0 = p at hx hpl HES hst
                  generalize addAt l (Pk.take k) (o.take k) = L at hst hal HA
                  have hc1 := HA.out.drew.cell p (by rw [ns_length]; omega)
                  have hf1 := HA.out.drew.free p (by rw [ns_length]; omega)
                  have hc2 := HVk.out.drew.cell k (by rw [ns_length, HOL.out]; omega)
                  rw [ns_at] at hc1 hc2
                  have hset := HA.out.drew.set p (by rw [ns_length]; omega) (((L.getD p 0 + o.getD k 0).n : Nat) : Int)
                  rw [ns_set, ← hst] at hset
                  have HNA := Aside0.mk hset
                  have hxor := xor_n (L.getD p 0) (o.getD k 0)
                  generalize L.getD p 0 = x at hc1 hxor HNA
                  generalize hyy : o.getD k 0 = yv at hc2 hxor HNA HES
                  have HYV := Aside0.mk hyy
                  have hbp : (0 : Int) ≤ (p : Int) ∧ (p : Int) < (l.length : Int) := by omega
                  have hbk : (0 : Int) ≤ (k : Int) ∧ (k : Int) < (Pk.length : Int) := by omega
                  have hfd0 : wr.drew.cell? ⟨gf, 0, none⟩ = some (.slice (some ⟨gw, 0, none⟩) l.length cw) := hfc0
                  have HBd := Aside0.mk HBk.out.drew
                  have HDd := Aside0.mk (HDk.out.step (Below.refl _ wr).drew)
                  have HEd := Aside0.mk (HE.out.below (Below.refl _ wr).drew)
                  have HFd := Aside0.mk (show wr.drew.heap[gf]? = some (.cells #[.slice (some ⟨gw, 0, none⟩) l.length cw, ev] 100 (0, 0)) from HF.out)
                  have HVd := Aside0.mk HVk.out.drew
                  clear hst hset hal hyy hRk hfc0 hfc1 hff1 hcr1
                  gi_wp2
                  refine startR_ y _ (by kernel_rfl) (fun h => by obtain ⟨a0, w0, h0⟩ := h; exact h0) (n := 12) (S := fun w' => w'.cell? ⟨gf, 0, none⟩ = some (.slice (some ⟨gw, 0, none⟩) l.length cw) ∧ w'.cell? ⟨gw, p, none⟩ = some (.int .u8 (x.n : Nat)) ∧ w'.cell? ⟨go, k, none⟩ = some (.int .u8 (yv.n : Nat))) (ds := [11]) #[false, false, false, false, false, false, false, false, false, false, false, false] (by kernel_rfl) rfl rfl ⟨hfd0, hc1, hc2⟩ (fun hHeld => ?_)
                  generalize wr.drew = wd at hfd0 hc1 hc2 hf1 HNA HBd HDd HEd HFd HVd hHeld ⊢
                  refine pure_ (i := 0) (N := some 109) (v := ?_) (a' := ?_) #[true, false, false, false, false, false, false, false, false, false, false, false] rfl rfl (by kernel_rfl) (fun _ _ _ h => h) (Or.inl ⟨by rfl, ?_⟩) ?_ ?_
                  rotate_left
                  · intro w'
                    go_simp
                    with_reducible rfl
                  rotate_left
                  · simp only [Act.put, List.setIfInBounds_toArray, List.set_cons_zero, List.set_cons_succ, i64_w, i32_w]
                    rfl
                  refine pure_ (i := 2) (N := some 111) (v := ?_) (a' := ?_) #[true, false, true, false, false, false, false, false, false, false, false, false] rfl rfl (by kernel_rfl) (fun _ _ _ h => h) (Or.inl ⟨by rfl, ?_⟩) ?_ ?_
                  rotate_left
                  · intro w'
                    go_simp
                    with_reducible rfl
                  rotate_left
                  · simp only [Act.put, List.setIfInBounds_toArray, List.set_cons_zero, List.set_cons_succ, i64_w, i32_w]
                    rfl
                  refine pure_ (i := 5) (N := some 114) (v := ?_) (a' := ?_) #[true, false, true, false, false, true, false, false, false, false, false, false] rfl rfl (by kernel_rfl) (fun _ _ _ h => h) (Or.inl ⟨by rfl, ?_⟩) ?_ ?_
                  rotate_left
                  · intro w'
                    go_simp
                    with_reducible rfl
                  rotate_left
                  · simp only [Act.put, List.setIfInBounds_toArray, List.set_cons_zero, List.set_cons_succ, i64_w, i32_w]
                    rfl
                  refine pure_ (i := 6) (N := some 115) (v := ?_) (a' := ?_) #[true, false, true, false, false, true, true, false, false, false, false, false] rfl rfl (by kernel_rfl) (fun _ _ _ h => h) (Or.inl ⟨by rfl, ?_⟩) ?_ ?_
                  rotate_left
                  · intro w'
                    go_simp
                    with_reducible rfl
                  rotate_left
                  · simp only [Act.put, List.setIfInBounds_toArray, List.set_cons_zero, List.set_cons_succ, i64_w, i32_w]
                    rfl
                  refine pure_ (i := 7) (N := some 116) (v := ?_) (a' := ?_) #[true, false, true, false, false, true, true, true, false, false, false, false] rfl rfl (by kernel_rfl) (fun _ _ _ h => h) (Or.inl ⟨by rfl, ?_⟩) ?_ ?_
                  rotate_left
                  · intro w'
                    go_simp
                    with_reducible rfl
                  rotate_left
                  · simp only [Act.put, List.setIfInBounds_toArray, List.set_cons_zero, List.set_cons_succ, i64_w, i32_w]
                    rfl
                  refine take_ (i := 1) (N := some 110) (v := ?_) (a' := ?_) #[true, true, true, false, false, true, true, true, false, false, false, false] rfl rfl (by kernel_rfl) (fun _ _ _ h => h) (Or.inl ⟨by rfl, ?_⟩) hHeld ?_ ?_
                  rotate_left
                  · rintro w' ⟨s0, s1, s2⟩
                    go_simp
                    with_reducible rfl
                  rotate_left
                  · simp only [Act.put, List.setIfInBounds_toArray, List.set_cons_zero, List.set_cons_succ, i64_w, i32_w]
                    rfl
                  refine pure_ (i := 3) (N := some 112) (v := ?_) (a' := ?_) #[true, true, true, true, false, true, true, true, false, false, false, false] rfl rfl (by kernel_rfl) (fun _ _ _ h => h) (Or.inl ⟨by rfl, ?_⟩) ?_ ?_
                  rotate_left
                  · intro w'
                    go_simp
                    with_reducible rfl
                  rotate_left
                  · simp only [Act.put, List.setIfInBounds_toArray, List.set_cons_zero, List.set_cons_succ, i64_w, i32_w]
                    rfl
                  refine take_ (i := 4) (N := some 113) (v := ?_) (a' := ?_) #[true, true, true, true, true, true, true, true, false, false, false, false] rfl rfl (by kernel_rfl) (fun _ _ _ h => h) (Or.inl ⟨by rfl, ?_⟩) hHeld ?_ ?_
                  rotate_left
                  · rintro w' ⟨s0, s1, s2⟩
                    go_simp
                    with_reducible rfl
                  rotate_left
                  · simp only [Act.put, List.setIfInBounds_toArray, List.set_cons_zero, List.set_cons_succ, i64_w, i32_w]
                    rfl
                  refine take_ (i := 8) (N := some 117) (v := ?_) (a' := ?_) #[true, true, true, true, true, true, true, true, true, false, false, false] rfl rfl (by kernel_rfl) (fun _ _ _ h => h) (Or.inl ⟨by rfl, ?_⟩) hHeld ?_ ?_
                  rotate_left
                  · rintro w' ⟨s0, s1, s2⟩
                    go_simp
                    with_reducible rfl
                  rotate_left
                  · simp only [Act.put, List.setIfInBounds_toArray, List.set_cons_zero, List.set_cons_succ, i64_w, i32_w]
                    rfl
                  refine pure_ (i := 9) (N := some 118) (v := ?_) (a' := ?_) #[true, true, true, true, true, true, true, true, true, true, false, false] rfl rfl (by kernel_rfl) (fun _ _ _ h => h) (Or.inl ⟨by rfl, ?_⟩) ?_ ?_
                  rotate_left
                  · intro w'
                    go_simp
                    with_reducible rfl
                  rotate_left
                  · simp only [Act.put, List.setIfInBounds_toArray, List.set_cons_zero, List.set_cons_succ, i64_w, i32_w]
                    rfl
                  refine pure_ (i := 10) (N := some 119) (v := ?_) (a' := ?_) #[true, true, true, true, true, true, true, true, true, true, true, false] rfl rfl (by kernel_rfl) (fun _ _ _ h => h) (Or.inl ⟨by rfl, ?_⟩) ?_ ?_
                  rotate_left
                  · intro w'
                    go_simp
                    with_reducible rfl
                  rotate_left
                  · simp only [Act.put, List.setIfInBounds_toArray, List.set_cons_zero, List.set_cons_succ, i64_w, i32_w]
                    rfl
                  refine last_ (i := 11) (N := none) #[true, true, true, true, true, true, true, true, true, true, true, true] rfl rfl (by kernel_rfl) (by decide) (fun K hK => ?_)
                  refine skip_ (w1 := ?_) (by rfl) rfl ?_ ?_
                  rotate_left
                  · go_simp
                    rfl
                  refine hK.out _ _ ?_
                  clear hK K
                  refine done_ (by kernel_rfl) ?_
                  have hgof := HVO.out.lt
                  have hgw7 := HGW.out
                  have HBX := Aside0.mk (HBd.out.setCell (p := ⟨gw, p, none⟩) HGW.out (.int .u8 ((x + yv).n : Nat)))
                  have HEX := Aside0.mk (HEd.out.set gw p (.int .u8 ((x + yv).n : Nat)) (by have := HGL8.out; omega))
                  have HFX := Aside0.mk (show (wd.setCell ⟨gw, p, none⟩ (.int .u8 ((x + yv).n : Nat))).heap[gf]? = some (.cells #[.slice (some ⟨gw, 0, none⟩) l.length cw, ev] 100 (0, 0)) by rw [heap_setCell_other _ _ _ _ (by have := HGL8.out; simp; omega)]; exact HFd.out)
                  have HVX := Aside0.mk (HVd.out.other gw p (.int .u8 ((x + yv).n : Nat)) (by omega))
                  have HDX2 := Aside0.mk (HDX.out.step (HB7.out.trans (HBX.out.mono HB7.out.size)))
                  generalize wd.setCell ⟨gw, p, none⟩ (.int .u8 ((x + yv).n : Nat)) = wx at HBX HEX HFX HVX HDX2 HNA ⊢
                  have hcr1 := HDX2.out.b1.cell
                  have hyx : wx.cell? ⟨go, k, none⟩ = some (.int .u8 (yv.n : Nat)) := by
                    have h0 := HVX.out.cell k (by rw [ns_length, HOL.out]; omega)
                    rw [ns_at, HYV.out] at h0
                    exact h0
                  clear hfd0 hc1 hc2 hf1 HBd HEd HFd HVd HDd hHeld hgof hgw7 hxor
                  by_cases hkP : P.length ≤ k
                  · have hkPi : (P.length : Int) ≤ (k : Int) := by omega
                    by_cases hy0 : yv = 0
                    · have hyn : yv.n = 0 := by rw [hy0]; rfl
                      have HEN := Aside0.mk (show errsK P.length Pk o (k + 1) = errsK P.length Pk o k by rw [HES.out, if_neg (fun h => h.2 hy0), List.append_nil])
                      rw [hyn] at hyx
                      clear hyn
                      gi_wp2
                      go_roundw
                      case rel => exact ⟨k + 1, ev, by omega, by go_num, by rw [HEN.out]; exact HEX.out, HFX.out, HNA.out, HBX.out⟩
                      case measure => simp [intOf]; omega
                    · have hyn : ¬ ((yv.n : Int) = 0) := fun h => hy0 (G.ext (by show yv.n = 0; omega))
                      have hynb : ((yv.n : Int) == 0) = false := beq_eq_false_iff_ne.2 hyn
                      have HEN := Aside0.mk (show is (errsK P.length Pk o (k + 1)) = is (errsK P.length Pk o k) ++ [(p : Int)] by rw [HES.out, if_pos ⟨hkP, hy0⟩]; unfold is; rw [List.map_append]; rfl)
                      have HLX := Aside0.mk (show ((is (errsK P.length Pk o k)).length + 1) * 8 ≤ 140737488355328 by have := errsK_le P.length Pk o k; rw [is_length]; omega)
                      have HSX := Aside0.mk (show gf + 1 ≤ wx.heap.size by have := (Array.getElem?_eq_some_iff.1 HFX.out).1; omega)
                      have hfx1 : wx.cell? ⟨gf, 1, none⟩ = some ev := by unfold World.cell?; rw [HFX.out]; simp
                      clear hy0
                      gi_wp2_with ((with_reducible refine gate_in (b := .append) rfl ?_); (refine in_append_num (w0 := wx) (gf + 1) rfl _ _ 29 3 .i64 8 rfl Tryz.underlying29 info_int (by decide) ev (is (errsK P.length Pk o k)) _ rfl rfl HEX.out (Below.refl _ _) HSX.out HLX.out ?_); intro v9 w9b hown hB9 hg; obtain ⟨A9, c9, rfl⟩ := own_form hown; have HO9 := Aside0.mk hown; have HB9b := Aside0.mk hB9; have hF9b : w9b.heap[gf]? = some (.cells #[.slice (some ⟨gw, 0, none⟩) l.length cw, ev] 100 (0, 0)) := (hB9.block gf (by omega)).trans HFX.out; have HF9b := Aside0.mk hF9b; have hf9c : w9b.cell? ⟨gf, 1, none⟩ = some ev := (by unfold World.cell?; rw [hF9b]; simp); have hf9f : w9b.frozen? ⟨gf, 1, none⟩ = false := (by unfold World.frozen?; rw [hF9b]; simp); clear hown hB9 hg hF9b)
                      go_roundw
                      case rel =>
                        have hgw8 := HGL8.out
                        refine ⟨k + 1, .slice A9 ((is (errsK P.length Pk o k)).length + 1) c9, by omega, by go_num, ?_, ?_, (HNA.out.belowB HB9b.out (by omega)).other gf 1 _ (by omega), ((HBX.out.trans (HB9b.out.mono (by have := HWF.out; omega))).setCell (p := ⟨gf, 1, none⟩) HWF.out _)⟩
                        · rw [HEN.out]
                          have e9 : (is (errsK P.length Pk o k) ++ [(p : Int)]).length = (is (errsK P.length Pk o k)).length + 1 := by simp
                          refine Own.set (show w9b.ownsRow (gf + 1) 3 1 (.slice A9 ((is (errsK P.length Pk o k)).length + 1) c9) (is (errsK P.length Pk o k) ++ [(p : Int)]).length (nums .i64 (is (errsK P.length Pk o k) ++ [(p : Int)])) from ?_) gf 1 _ (by omega)
                          rw [← e9]
                          exact HO9.out
                        · have := heap_setCell_same _ _ 1 _ _ (.slice A9 ((is (errsK P.length Pk o k)).length + 1) c9) HF9b.out
                          simpa using this
                      case measure => simp [intOf]; omega
                  · have hkPi : ¬ ((P.length : Int) ≤ (k : Int)) := by omega
                    have HEN := Aside0.mk (show errsK P.length Pk o (k + 1) = errsK P.length Pk o k by rw [HES.out, if_neg (fun h => hkP h.1), List.append_nil])
                    gi_wp2
                    go_roundw
                    case rel => exact ⟨k + 1, ev, by omega, by go_num, by rw [HEN.out]; exact HEX.out, HFX.out, HNA.out, HBX.out⟩
                    case measure => simp [intOf]; omega
                · have hkn : k = Pk.length := by omega
                  have hkni : ¬ ((k : Int) < (Pk.length : Int)) := by omega
                  have HEF := Aside0.mk (show Own .i64 3 wr w7.heap.size ev (is (errsOf P.length Pk o)) by
                    have := HE.out
                    rw [hkn] at this
                    exact this.base_le (by have := HWF.out; omega))
                  have HAF := Aside0.mk (show CRow (Value.int .u8) 0 wr gw (ns (addAt l Pk o)) by
                    have := HA.out
                    rw [hkn, List.take_of_length_le (Nat.le_refl _), List.take_of_length_le (by rw [HOL.out]; omega)] at this
                    exact this)
                  have HSR := Aside0.mk (Sort_any ev (is (errsOf P.length Pk o)) w7 wr HBk.out HEF.out (by rw [is_length]; exact Nat.le_trans (errsOf_le (q := Qk.length) HQ2.out) HQL.out))
                  have HNB1 := Aside0.mk (show some gw ≠ ev.ownBlock from HE.out.noblock (by have := HGL8.out; omega))
                  have HNB2 := Aside0.mk (show some gf ≠ ev.ownBlock from HE.out.noblock (by omega))
                  obtain ⟨AE, cE, hev⟩ := own_form HEF.out
                  subst hev
                  clear hkn hRk hff1
                  gi_wp2
                  refine ⟨trivial, CallsIn.inRound y (callsIn_wide.2 (HSR.out.mono ?_))⟩
                  rintro e ws ⟨rfl, hOs, hBs, hss, hks⟩
                  have hFs : ws.heap[gf]? = some (.cells #[.slice (some ⟨gw, 0, none⟩) l.length cw, .slice AE (is (errsOf P.length Pk o)).length cE] 100 (0, 0)) := (hks gf (Array.getElem?_eq_some_iff.1 HF.out).1 HNB2.out).trans HF.out
                  have hgws : ws.heap[gw]? = wr.heap[gw]? := hks gw HAF.out.lt HNB1.out
                  have HAS := Aside0.mk (show CRow (Value.int .u8) 0 ws gw (ns (addAt l Pk o)) from ⟨Nat.lt_of_lt_of_le HAF.out.lt hss, fun j hj => (World.cell?_of_block (a := ⟨gw, j, none⟩) hgws).trans (HAF.out.cell j hj), fun j hj => by
                    have := HAF.out.free j hj
                    unfold World.frozen? at this ⊢
                    rw [show ws.heap[(⟨gw, j, none⟩ : Addr).block]? = wr.heap[gw]? from hgws]
                    exact this⟩)
                  have HOS := Aside0.mk hOs
                  have HBXS := Aside0.mk (HB7.out.trans (hBs.mono HB7.out.size))
                  have HDS := Aside0.mk (HDX.out.step HBXS.out)
                  have hfs0 : ws.cell? ⟨gf, 0, none⟩ = some (.slice (some ⟨gw, 0, none⟩) l.length cw) := by unfold World.cell?; rw [hFs]; simp
                  have hfs1 : ws.cell? ⟨gf, 1, none⟩ = some (.slice AE (is (errsOf P.length Pk o)).length cE) := by unfold World.cell?; rw [hFs]; simp
                  obtain ⟨hk0, hk1, hk2, hk3⟩ := HDS.out.cells
                  have hk4 := HDS.out.b3.frozen
                  have hk5 := HDS.out.b3.cell
                  clear hFs hgws hOs hBs hss hks hfc0 hfc1 hcr1
                  gi_wp2
                  have hst := dec_stored (g := w.heap.size + 1 + 1) (h := w.heap.size + 1 + 1 + 1) (by omega) HDS.out.b2 HDS.out.b3 rfl (.slice (some ⟨gw, 0, none⟩) l.length cw) (.slice AE (is (errsOf P.length Pk o)).length cE) 0
                  have hgwl := HGW.out
                  have hsz7 := HD7.out.size
                  have hbf := ((HDS.out.below.setCell (p := ⟨w.heap.size + 1 + 1, 0, none⟩) (by simp; omega) (.slice (some ⟨gw, 0, none⟩) l.length cw)).setCell (p := ⟨w.heap.size + 1 + 1, 1, none⟩) (by simp; omega) (.slice AE (is (errsOf P.length Pk o)).length cE)).setCell (p := ⟨w.heap.size + 1 + 1 + 1, 0, none⟩) (by simp; omega) (.int .i64 0)
                  refine ⟨fun kk oo hk ho => ?_, addAt l Pk o, sort2 (is (errsOf P.length Pk o)), gw, cw, .slice AE (is (errsOf P.length Pk o)).length cE, ⟨gl, HMEM.out, HGOOD.out⟩, ?_, hst.2, ?_, ?_, ?_, ?_, hbf⟩
                  · have hX := (HBXS.out.block kk (Array.getElem?_eq_some_iff.1 hk).1).trans hk
                    have n4 : kk ≠ w.heap.size + 1 + 1 := fun e => by
                      rw [e, HDX.out.b2] at hk
                      cases hk
                      cases ho
                    have n5 : kk ≠ w.heap.size + 1 + 1 + 1 := fun e => by
                      have hb3 := HDX.out.b3
                      unfold Boxed at hb3
                      rw [e, hb3] at hk
                      cases hk
                      cases ho
                    rw [heap_setCell_other _ _ _ _ n5, heap_setCell_other _ _ _ _ n4, heap_setCell_other _ _ _ _ n4]
                    exact hX
                  · rw [addAt_length]; exact hst.1
                  · rw [addAt_length]; exact hcw
                  · omega
                  · exact ((HAS.out.other _ _ _ (by omega)).other _ _ _ (by omega)).other _ _ _ (by omega)
                  · exact (((HOS.out.set _ _ _ (by omega)).set _ _ _ (by omega)).set _ _ _ (by omega)).base_le (by omega)
      case done =>
        intro D X hD hb hphi hdef
        have hDX := HD5.out.step hb
        have HDX := Aside0.mk hDX
        obtain ⟨hf0, hf1, hcc0, hcc1⟩ := hDX.cells
        have hf2 := hDX.b3.frozen
        have hcc2 := hDX.b3.cell
        have HPHI := Aside0.mk hphi
        have HDF := Aside0.mk hdef
        have HSD := Aside0.mk (show w.heap.size + 4 ≤ D from Nat.le_trans HD5.out.size hD)
        clear hDX hphi hdef hb hD
        gi_wp2
        have hst := dec_stored (g := w.heap.size + 1 + 1) (h := w.heap.size + 1 + 1 + 1) (by omega) HDX.out.b2 HDX.out.b3 rfl (.slice none 0 0) (.slice none 0 0) 190
        have hbe := ((HDX.out.below.setCell (p := ⟨w.heap.size + 1 + 1, 0, none⟩) (by simp; omega) (.slice none 0 0)).setCell (p := ⟨w.heap.size + 1 + 1, 1, none⟩) (by simp; omega) (.slice none 0 0)).setCell (p := ⟨w.heap.size + 1 + 1 + 1, 0, none⟩) (by simp; omega) (.int .i64 190)
        have hdf : (((X.setCell ⟨w.heap.size + 1 + 1, 0, none⟩ (.slice none 0 0)).setCell ⟨w.heap.size + 1 + 1, 1, none⟩ (.slice none 0 0)).setCell ⟨w.heap.size + 1 + 1 + 1, 0, none⟩ (.int .i64 190)).heap[D]? = some (.deferred (some [])) := by
          have := HSD.out
          rw [heap_setCell_other _ _ _ _ (show D ≠ _ by simp; omega), heap_setCell_other _ _ _ _ (show D ≠ _ by simp; omega), heap_setCell_other _ _ _ _ (show D ≠ _ by simp; omega)]
          exact HDF.out
        generalize (((X.setCell ⟨w.heap.size + 1 + 1, 0, none⟩ (.slice none 0 0)).setCell ⟨w.heap.size + 1 + 1, 1, none⟩ (.slice none 0 0)).setCell ⟨w.heap.size + 1 + 1 + 1, 0, none⟩ (.int .i64 190)) = X2 at hst hbe hdf ⊢
        clear hf0 hf1 hcc0 hcc1 hf2 hcc2
        have hK := fun o' => (KeepC.refl X2).putObj o' hdf rfl
        refine ⟨by simp, .inl ⟨_, _, rfl, run_takeDeferred hdf, ?_⟩⟩
        refine ⟨_, results_ci (by rfl) _ _ (w.heap.size + 1 + 1) (w.heap.size + 1 + 1 + 1) _ _ _ _ 190 rfl ((hK _).2 _ _ hst.1 rfl) Tryz.underlying100 rfl (by kernel_rfl) rfl ((hK _).cell hst.2) Tryz.underlying26, none, ?_, rfl, hbe.grown (grownBy_putObj' X2 D _) hbe.size (fun j e => by cases e; have := HSD.out; omega)⟩
        intro g hg
        obtain ⟨j, hj, rfl⟩ := List.getElem_of_mem hg
        have := HPHI.out j hj
        rwa [List.getD_eq_getElem?_getD, List.getElem?_eq_getElem hj] at this
      case stop =>
        intro D X hD hx hdef
        have HX := Aside0.mk hx
        have HDF := Aside0.mk hdef
        have HSD := Aside0.mk (show w.heap.size + 4 ≤ D from Nat.le_trans HD5.out.size hD)
        clear hx hdef hD
        gi_wp2
        obtain ⟨x, er, g, cx, v, h1, h2, h3, h4, h5, h6, h7, h8⟩ := HX.out
        have hdf := HDF.out
        have hK := fun o' => (KeepC.refl X).putObj o' hdf rfl
        refine ⟨by simp, .inl ⟨_, _, rfl, run_takeDeferred hdf, ?_⟩⟩
        exact ⟨_, results_ci (by rfl) _ _ (w.heap.size + 1 + 1) (w.heap.size + 1 + 1 + 1) _ _ _ _ 0 rfl ((hK _).2 _ _ h2 rfl) Tryz.underlying100 rfl (by kernel_rfl) rfl ((hK _).cell h3) Tryz.underlying26, some (x, er), h1, ⟨g, cx, v, rfl, h4, h5, h6.keepC (hK _), h7.keepC (hK _)⟩, h8.grown (grownBy_putObj' X D _) h8.size (fun j e => by cases e; have := HSD.out; omega)⟩
end Go.Proofs.YtajccgmeminlhaaGreatDoor
end
