/- DecP, of the parts DecPure, DecFull: each part tells what it proves. -/
import Derived.Test.YtlifghomejdhnaaDoorSolWord
import Derived.Test.YtlifghomejdhnaaDoorGues
import Derived.Test.YtlifghomejdhnaaDoorRos
section
/- What solomon.Decode computes, and that it finds the code word within the bound: in plain Lean. -/
set_option linter.unusedVariables false
set_option linter.unusedSimpArgs false
namespace Go.Proofs.YtlifghomejdhnaaDoor
open Go.Proofs.YtlifghomejdhnaaDoor.Gf

/-- Places with those of some locators behind them. -/
def addP (N : Nat) : List Nat → List G → Option (List Nat)
  | P, [] => some P
  | P, x :: L => if x.n = 0 then none else if N < lgN x.n + 1 then none else if (N - 1 - lgN x.n) ∈ P then none else addP N (P ++ [N - 1 - lgN x.n]) L
def errsOf (s : Nat) (P : List Nat) (o : List G) : List Nat := ((List.range P.length).filter fun i => decide (s ≤ i) && decide (o.getD i 0 ≠ 0)).map fun i => P.getD i 0
def Good (l : List G) (E : List Nat) (g : List G) (w : List G) (er : List Int) : Prop :=
  ∃ P o, addP l.length E g = some P ∧ o.length = P.length ∧ Code (addAt l P o) ∧ w = addAt l P o ∧ er = sort2 (is (errsOf E.length P o))
def Bad (l : List G) (E : List Nat) (g : List G) : Prop := ∀ P, addP l.length E g = some P → ∀ o : List G, o.length = P.length → ¬ Code (addAt l P o)
/-- A code word within the bound. -/
structure Near (l : List G) (E : List Nat) (w : List G) : Prop where
  len : w.length = l.length
  code : Code w
  bound : ∃ C : List Nat, (E ++ C).Nodup ∧ (∀ p ∈ C, p < l.length) ∧ 2 * C.length + E.length ≤ 4 ∧ ∀ q, q < l.length → q ∉ E → q ∉ C → w.getD q 0 = l.getD q 0
theorem addP_spec (N : Nat) : ∀ (L : List G) (P P' : List Nat), addP N P L = some P' → P.Nodup → ∃ Q, P' = P ++ Q ∧ P'.Nodup ∧ Q.length = L.length ∧ ∀ q ∈ Q, q < N
  | [], P, P', h, hd => by
    unfold addP at h
    cases h
    exact ⟨[], by simp, hd, rfl, by simp⟩
  | x :: L, P, P', h, hd => by
    unfold addP at h
    by_cases h1 : x.n = 0
    · rw [if_pos h1] at h; cases h
    rw [if_neg h1] at h
    by_cases h2 : N < lgN x.n + 1
    · rw [if_pos h2] at h; cases h
    rw [if_neg h2] at h
    by_cases h3 : (N - 1 - lgN x.n) ∈ P
    · rw [if_pos h3] at h; cases h
    rw [if_neg h3] at h
    have hd2 : (P ++ [N - 1 - lgN x.n]).Nodup := by
      rw [List.nodup_append]
      refine ⟨hd, by simp, fun a ha b hb hab => ?_⟩
      rw [List.mem_singleton] at hb
      subst hb
      subst hab
      exact h3 ha
    obtain ⟨Q, rfl, h4, h5, h6⟩ := addP_spec N L _ P' h hd2
    refine ⟨(N - 1 - lgN x.n) :: Q, by simp, h4, by simp [h5], fun q hq => ?_⟩
    rcases List.mem_cons.1 hq with rfl | hq
    · omega
    · exact h6 q hq
theorem guess_len {T : List G} {g : List G} (hT : T.length ≤ 4) (h : g ∈ guessL T) : 2 * g.length ≤ T.length := by
  unfold guessL at h
  rcases List.mem_cons.1 h with rfl | h
  · simp
  rcases List.mem_append.1 h with h | h
  · unfold one1 at h
    split at h
    · rename_i h2
      rw [List.mem_singleton] at h
      subst h
      simpa using h2.1
    · simp at h
  · unfold two2 at h
    split at h
    · rename_i h2
      rw [List.mem_singleton] at h
      subst h
      omega
    · simp at h
theorem modL_length (l : List G) (E : List Nat) : (modL l E).length = 4 - E.length := by simp [modL]
theorem modL_at (l : List G) (E : List Nat) (i : Nat) (h : i < 4 - E.length) : (modL l E).getD i 0 = modT l.length (syn l) 0 E (E.length + i) := by
  unfold modL
  rw [List.getD_eq_getElem?_getD, List.getElem?_map, List.getElem?_range h]
  rfl
/-- The places outside E at which two words differ. -/
def errL (l : List G) (E : List Nat) (w : List G) : List Nat := (List.range l.length).filter fun p => decide (p ∉ E) && decide (l.getD p 0 ≠ w.getD p 0)
theorem mem_errL {l : List G} {E : List Nat} {w : List G} {p : Nat} : p ∈ errL l E w ↔ p < l.length ∧ p ∉ E ∧ l.getD p 0 ≠ w.getD p 0 := by
  unfold errL
  rw [List.mem_filter, List.mem_range, Bool.and_eq_true, decide_eq_true_eq, decide_eq_true_eq]
theorem errL_sorted (l : List G) (E : List Nat) (w : List G) : (errL l E w).Pairwise (· < ·) := List.Pairwise.filter _ List.pairwise_lt_range
theorem sort2_eq {e F : List Nat} (hn : e.length ≤ 2) (hd : e.Nodup) (hs : F.Pairwise (· < ·)) (hm : ∀ p, p ∈ e ↔ p ∈ F) : sort2 (is e) = is F := by
  have hF : F.length ≤ 2 := by
    match F, hs, hm with
    | [], _, _ => simp
    | [_], _, _ => simp
    | [_, _], _, _ => simp
    | x :: y :: z :: R, hs, hm =>
      exfalso
      have h1 : x < y := List.rel_of_pairwise_cons hs (by simp)
      have h2 : x < z := List.rel_of_pairwise_cons hs (by simp)
      have h3 : y < z := List.rel_of_pairwise_cons (List.Pairwise.of_cons hs) (by simp)
      have hx := (hm x).2 (by simp)
      have hy := (hm y).2 (by simp)
      have hz := (hm z).2 (by simp)
      match e, hn, hx, hy, hz with
      | [a], _, hx, hy, hz => simp at hx hy; omega
      | [a, b], _, hx, hy, hz => simp at hx hy hz; omega
  match e, hn, F, hF with
  | [], _, [], _ => rfl
  | [], _, x :: _, _ => have := (hm x).2 (by simp); simp at this
  | a :: _, _, [], _ => have := (hm a).1 (by simp); simp at this
  | [a], _, [x], _ => have := (hm a).1 (by simp); simp at this; subst this; rfl
  | [a], _, [x, y], _ =>
    have h1 : x < y := List.rel_of_pairwise_cons hs (by simp)
    have hx := (hm x).2 (by simp)
    have hy := (hm y).2 (by simp)
    simp at hx hy
    omega
  | [a, b], _, [x], _ =>
    have ha := (hm a).1 (by simp)
    have hb := (hm b).1 (by simp)
    simp at ha hb hd
    omega
  | [a, b], _, [x, y], _ =>
    have h1 : x < y := List.rel_of_pairwise_cons hs (by simp)
    have hx := (hm x).2 (by simp)
    have hy := (hm y).2 (by simp)
    have ha := (hm a).1 (by simp)
    have hb := (hm b).1 (by simp)
    simp at hx hy ha hb hd
    unfold is sort2
    simp only [List.map_cons, List.map_nil]
    by_cases hba : b < a
    · rw [if_pos (by omega)]
      have e1 : x = b := by omega
      have e2 : y = a := by omega
      rw [e1, e2]
    · rw [if_neg (by omega)]
      have e1 : x = a := by omega
      have e2 : y = b := by omega
      rw [e1, e2]
theorem mem_errsOf {s : Nat} {P : List Nat} {o : List G} {p : Nat} : p ∈ errsOf s P o ↔ ∃ i, i < P.length ∧ s ≤ i ∧ o.getD i 0 ≠ 0 ∧ P.getD i 0 = p := by
  unfold errsOf
  simp only [List.mem_map, List.mem_filter, List.mem_range, Bool.and_eq_true, decide_eq_true_eq]
  constructor
  · rintro ⟨i, ⟨h1, h2, h3⟩, h4⟩; exact ⟨i, h1, h2, h3, h4⟩
  · rintro ⟨i, h1, h2, h3, h4⟩; exact ⟨i, ⟨h1, h2, h3⟩, h4⟩
theorem errsOf_nodup {s : Nat} {P : List Nat} {o : List G} (hd : P.Nodup) : (errsOf s P o).Nodup := by
  unfold errsOf
  rw [List.Nodup, List.pairwise_map]
  refine List.Pairwise.imp_of_mem ?_ (List.Pairwise.filter _ List.nodup_range)
  intro a b ha hb hab he
  rw [List.mem_filter, List.mem_range] at ha hb
  exact hab (nodup_getD hd ha.1 hb.1 he)
theorem filter_range_le (f : Nat → Bool) (s q : Nat) (h : ∀ i, i < s → f i = false) : ((List.range (s + q)).filter f).length ≤ q := by
  induction q with
  | zero =>
    have : (List.range (s + 0)).filter f = [] := by
      rw [List.filter_eq_nil_iff]
      intro a ha
      rw [List.mem_range] at ha
      rw [h a (by omega)]
      simp
    rw [this]
    simp
  | succ q ih =>
    rw [show s + (q + 1) = (s + q) + 1 from rfl, List.range_succ, List.filter_append, List.length_append]
    have : ([s + q].filter f).length ≤ 1 := List.length_filter_le _ _
    omega
theorem errsOf_le {s q : Nat} {P : List Nat} {o : List G} (h : P.length = s + q) : (errsOf s P o).length ≤ q := by
  unfold errsOf
  rw [List.length_map, h]
  refine filter_range_le _ s q fun i hi => ?_
  rw [decide_eq_false (by omega)]
  rfl
theorem getD_append_l (E Q : List Nat) (i : Nat) (h : i < E.length) : (E ++ Q).getD i 0 = E.getD i 0 := by
  rw [List.getD_eq_getElem?_getD, List.getD_eq_getElem?_getD, List.getElem?_append_left h]
theorem getD_append_r (E Q : List Nat) (i : Nat) (h : E.length ≤ i) : (E ++ Q).getD i 0 = Q.getD (i - E.length) 0 := by
  rw [List.getD_eq_getElem?_getD, List.getD_eq_getElem?_getD, List.getElem?_append_right h]
theorem dec_some {l : List G} {E : List Nat} {g w : List G} {er : List Int} (hE : E.Nodup) (hEb : ∀ p ∈ E, p < l.length) (h4 : E.length ≤ 4) (hg : g ∈ guessL (modL l E)) (h : Good l E g w er) : Near l E w ∧ er = is (errL l E w) := by
  obtain ⟨P, o, hP, ho, hc, rfl, rfl⟩ := h
  obtain ⟨Q, rfl, hd, hQ, hQb⟩ := addP_spec _ _ _ _ hP hE
  have hb : ∀ p ∈ E ++ Q, p < l.length := fun p hp => (List.mem_append.1 hp).elim (hEb p) (hQb p)
  have hgl := guess_len (by rw [modL_length]; omega) hg
  rw [modL_length] at hgl
  refine ⟨⟨addAt_length _ _ _, hc, Q, hd, hQb, by omega, fun q hq h1 h2 => addAt_off _ _ _ _ hb (fun hm => (List.mem_append.1 hm).elim h1 h2)⟩, ?_⟩
  refine sort2_eq (Nat.le_trans (errsOf_le (q := Q.length) (by simp)) (by omega)) (errsOf_nodup hd) (errL_sorted _ _ _) fun p => ?_
  rw [mem_errsOf, mem_errL]
  rw [List.nodup_append] at hd
  constructor
  · rintro ⟨i, hi, hs, hne, rfl⟩
    refine ⟨hb _ (getD_mem0 hi), fun hm => ?_, fun he => ?_⟩
    · rw [getD_append_r _ _ _ hs] at hm
      exact hd.2.2 _ hm _ (getD_mem0 (by simp at hi; omega)) rfl
    · rw [addAt_on _ _ _ _ hb (by rw [List.nodup_append]; exact hd) ho hi] at he
      exact hne (by grind)
  · rintro ⟨hp, hpE, hne⟩
    have hm : p ∈ E ++ Q := by
      by_cases hm : p ∈ E ++ Q
      · exact hm
      · exact absurd (addAt_off _ _ _ _ hb hm).symm hne
    obtain ⟨i, hi, rfl⟩ := mem_getD hm
    refine ⟨i, hi, ?_, fun h0 => hne ?_, rfl⟩
    · by_cases hs : E.length ≤ i
      · exact hs
      · rw [getD_append_l _ _ _ (by omega)] at hpE
        exact absurd (getD_mem0 (by omega)) hpE
    · rw [addAt_on _ _ _ _ hb (by rw [List.nodup_append]; exact hd) ho hi, h0]
      grind
/-- No more than one code word is within the bound. -/
theorem near_unique {l : List G} {E : List Nat} {w w' : List G} (hN : l.length ≤ 63) (hE : E.Nodup) (hEb : ∀ p ∈ E, p < l.length) (h : Near l E w) (h' : Near l E w') : w' = w := by
  obtain ⟨C, hd, hb, hn, ho⟩ := h.bound
  obtain ⟨C', hd', hb', hn', ho'⟩ := h'.bound
  rw [List.nodup_append] at hd hd'
  refine code_apart (P := E ++ C ++ C'.filter (fun p => decide (p ∉ C))) (by rw [h.len]; exact hN) (by rw [h.len, h'.len]) h.code h'.code ?_ ?_ ?_ ?_
  · intro p hp
    rw [h.len]
    rcases List.mem_append.1 hp with hp | hp
    · exact (List.mem_append.1 hp).elim (hEb p) (hb p)
    · exact hb' p (List.mem_filter.1 hp).1
  · rw [List.nodup_append, List.nodup_append]
    refine ⟨⟨hE, hd.2.1, hd.2.2⟩, List.Pairwise.filter _ hd'.2.1, fun a ha b hb hab => ?_⟩
    subst hab
    obtain ⟨h1, h2⟩ := List.mem_filter.1 hb
    rcases List.mem_append.1 ha with ha | ha
    · exact hd'.2.2 _ ha _ h1 rfl
    · exact (of_decide_eq_true h2) ha
  · rw [List.length_append, List.length_append]
    have := List.length_filter_le (fun p => decide (p ∉ C)) C'
    omega
  · intro q hq hm
    rw [h.len] at hq
    simp only [List.mem_append, List.mem_filter, decide_eq_true_eq, not_or, not_and, Decidable.not_not] at hm
    rw [ho q hq hm.1.1 hm.1.2, ho' q hq hm.1.1 (fun h => hm.1.2 (hm.2 h))]
end Go.Proofs.YtlifghomejdhnaaDoor
end
section
/- The guesses of solomon.guesses find each code word within the bound: in plain Lean. -/
set_option linter.unusedVariables false
set_option linter.unusedSimpArgs false
namespace Go.Proofs.YtlifghomejdhnaaDoor
open Go.Proofs.YtlifghomejdhnaaDoor.Gf

def Rep (N : Nat) (T : Nat → G) (k : Nat) (D : List Nat) (u : Nat → G) : Prop := ∀ i, k + i < 4 → T (k + i) = sm (fun c => loc N (D.getD c 0) ^ (i + 1) * u c) D.length
theorem rep_step {N : Nat} {T : Nat → G} {k p : Nat} {D : List Nat} {u : Nat → G} (h : Rep N T k (p :: D) u) : Rep N (modP (loc N p) k 0 T) (k + 1) D (fun c => (loc N (D.getD c 0) + loc N p) * u (c + 1)) := by
  intro i hi
  have h1 := h (i + 1) (by omega)
  have h2 := h i (by omega)
  rw [List.length_cons, sm_cons] at h1 h2
  unfold modP
  rw [if_pos (by omega), show k + 1 + i = k + (i + 1) by omega, show k + (i + 1) - 1 = k + i by omega, h1, h2]
  have e : sm (fun c => loc N (D.getD c 0) ^ (i + 1) * ((loc N (D.getD c 0) + loc N p) * u (c + 1))) D.length = sm (fun c => loc N ((p :: D).getD (c + 1) 0) ^ (i + 1 + 1) * u (c + 1)) D.length + loc N p * sm (fun c => loc N ((p :: D).getD (c + 1) 0) ^ (i + 1) * u (c + 1)) D.length := by
    rw [← sm_mul, ← sm_add]
    refine sm_congr fun c _ => ?_
    show _ = loc N (D.getD c 0) ^ (i + 1 + 1) * u (c + 1) + loc N p * (loc N (D.getD c 0) ^ (i + 1) * u (c + 1))
    rw [gpow_succ _ (i + 1)]
    generalize loc N (D.getD c 0) ^ (i + 1) = q
    grind
  rw [e]
  show loc N p ^ (i + 1 + 1) * u 0 + _ + loc N p * (loc N p ^ (i + 1) * u 0 + _) = _
  rw [gpow_succ _ (i + 1)]
  generalize loc N p ^ (i + 1) = q
  grind
theorem rep_all (N : Nat) (hN : N ≤ 63) (C : List Nat) : ∀ (E : List Nat) (T : Nat → G) (k : Nat) (u : Nat → G), Rep N T k (E ++ C) u → (E ++ C).Nodup → (∀ p ∈ E ++ C, p < N) → (∀ c, c < C.length → u (E.length + c) ≠ 0) →
    ∃ u', Rep N (modT N T k E) (k + E.length) C u' ∧ ∀ c, c < C.length → u' c ≠ 0
  | [], T, k, u, h, _, _, hu => ⟨u, h, fun c hc => by have := hu c hc; simpa using this⟩
  | p :: E, T, k, u, h, hd, hb, hu => by
    have hs := rep_step (D := E ++ C) h
    rw [List.cons_append, List.nodup_cons] at hd
    obtain ⟨u', h1, h2⟩ := rep_all N hN C E _ (k + 1) _ hs hd.2 (fun q hq => hb q (List.mem_cons_of_mem _ hq)) (fun c hc => by
      have h0 := hu c hc
      rw [List.length_cons, show E.length + 1 + c = E.length + c + 1 by omega] at h0
      refine gmul_ne (fun he => ?_) h0
      have hlt : E.length + c < (E ++ C).length := by rw [List.length_append]; omega
      have hm := getD_mem0 hlt
      have := loc_inj hN (hb _ (List.mem_cons_of_mem _ hm)) (hb p (List.mem_cons_self ..)) (gadd_eq he)
      rw [this] at hm
      exact hd.1 hm)
    refine ⟨u', ?_, h2⟩
    rw [List.length_cons, show k + (E.length + 1) = k + 1 + E.length by omega]
    exact h1
theorem loc_lg {N p : Nat} (hN : N ≤ 63) (hp : p < N) : lgN (loc N p).n = N - 1 - p := by
  unfold loc
  rw [npow_lg g2 (by decide), g2_lg, Nat.one_mul, Nat.mod_eq_of_lt (by omega)]
  exact (pow_at _ (by omega)).1
theorem loc_n_ne (N p : Nat) : (loc N p).n ≠ 0 := fun h => loc_ne0 N p (G.ext h)
/-- A locator of a place is one more place. -/
theorem addP_loc {N : Nat} (hN : N ≤ 63) {P : List Nat} {p : Nat} {L : List G} (hp : p < N) (hm : p ∉ P) : addP N P (loc N p :: L) = addP N (P ++ [p]) L := by
  rw [addP, if_neg (loc_n_ne N p), loc_lg hN hp, if_neg (by omega), show N - 1 - (N - 1 - p) = p by omega, if_neg hm]
theorem horner3 (x a b : G) : horner x [b, a, 1] = x * x + a * x + b := by
  show ((0 * x + 1) * x + a) * x + b = _
  grind
theorem gOf_inj {a b : Nat} (ha : a < 64) (hb : b < 64) (h : gOf a = gOf b) : a = b := by
  have := congrArg G.n h
  rwa [gOf_n a ha, gOf_n b hb] at this
theorem rootsN_nodup (p : List G) : (rootsN p 64).Nodup := by
  unfold rootsN
  refine List.Pairwise.filter _ ?_
  rw [List.pairwise_map]
  refine List.Pairwise.imp_of_mem ?_ List.nodup_range
  intro a b ha hb hab he
  rw [List.mem_range] at ha hb
  exact hab (gOf_inj ha hb he)
theorem mem_rootsN (p : List G) (x : G) : x ∈ rootsN p 64 ↔ horner x p = 0 := by
  unfold rootsN isRoot
  rw [List.mem_filter, decide_eq_true_eq, List.mem_map]
  constructor
  · exact fun h => h.2
  · intro h
    refine ⟨⟨x.n, List.mem_range.2 x.lt, ?_⟩, h⟩
    exact G.ext (gOf_n x.n x.lt)
theorem two_list {L : List G} {a b : G} (hd : L.Nodup) (hab : a ≠ b) (h : ∀ x, x ∈ L ↔ x = a ∨ x = b) : L = [a, b] ∨ L = [b, a] := by
  match L, hd, h with
  | [], _, h => have := (h a).2 (.inl rfl); simp at this
  | [x], _, h =>
    have h1 := (h a).2 (.inl rfl)
    have h2 := (h b).2 (.inr rfl)
    simp at h1 h2
    exact absurd (h1.trans h2.symm) hab
  | [x, y], hd, h =>
    have hx := (h x).1 (by simp)
    have hy := (h y).1 (by simp)
    simp at hd
    rcases hx with rfl | rfl <;> rcases hy with rfl | rfl
    · exact absurd rfl hd
    · exact .inl rfl
    · exact .inr rfl
    · exact absurd rfl hd
  | x :: y :: z :: R, hd, h =>
    exfalso
    have hx := (h x).1 (by simp)
    have hy := (h y).1 (by simp)
    have hz := (h z).1 (by simp)
    simp at hd
    rcases hx with rfl | rfl <;> rcases hy with rfl | rfl <;> rcases hz with rfl | rfl <;> simp at hd
theorem not_bad {l w : List G} {E P : List Nat} {g : List G} (hP : addP l.length E g = some P) (hl : w.length = l.length) (hw : Code w) (hb : ∀ p ∈ P, p < l.length) (hd : P.Nodup) (ho : ∀ q, q < l.length → q ∉ P → w.getD q 0 = l.getD q 0) : ¬ Bad l E g := fun h =>
  h P hP (diffs l w P) (diffs_length ..) (by rw [addAt_diffs hl hb hd ho]; exact hw)
theorem dec_none {l : List G} {E : List Nat} {w : List G} (hN : l.length ≤ 63) (hE : E.Nodup) (hEb : ∀ p ∈ E, p < l.length) (hbad : ∀ g ∈ guessL (modL l E), Bad l E g) : ¬ Near l E w := by
  intro hn
  obtain ⟨C0, hd0, hb0, hn0, ho0⟩ := hn.bound
  rw [List.nodup_append] at hd0
  -- only the places that differ
  obtain ⟨C, hC⟩ : ∃ C, C = C0.filter (fun p => decide (l.getD p 0 ≠ w.getD p 0)) := ⟨_, rfl⟩
  have hCb : ∀ p ∈ C, p < l.length := fun p hp => hb0 p (by rw [hC] at hp; exact (List.mem_filter.1 hp).1)
  have hCn : ∀ p ∈ C, l.getD p 0 ≠ w.getD p 0 := fun p hp => by rw [hC] at hp; exact of_decide_eq_true (List.mem_filter.1 hp).2
  have hCl : 2 * C.length + E.length ≤ 4 := by
    have := List.length_filter_le (fun p => decide (l.getD p 0 ≠ w.getD p 0)) C0
    rw [hC]
    omega
  have hd : (E ++ C).Nodup := by
    rw [List.nodup_append]
    exact ⟨hE, by rw [hC]; exact List.Pairwise.filter _ hd0.2.1, fun a ha b hb hab => by rw [hC] at hb; exact hd0.2.2 a ha b (List.mem_filter.1 hb).1 hab⟩
  have ho : ∀ q, q < l.length → q ∉ E ++ C → w.getD q 0 = l.getD q 0 := by
    intro q hq hm
    rw [List.mem_append, not_or] at hm
    by_cases h0 : q ∈ C0
    · by_cases he : l.getD q 0 = w.getD q 0
      · exact he.symm
      · exact absurd (by rw [hC]; exact List.mem_filter.2 ⟨h0, decide_eq_true he⟩) hm.2
    · exact ho0 q hq hm.1 h0
  have hb : ∀ p ∈ E ++ C, p < l.length := fun p hp => (List.mem_append.1 hp).elim (hEb p) (hCb p)
  have hcode := hn.code
  have hlen := hn.len
  clear hC hd0 hb0 hn0 ho0 hn
  have hrep : Rep l.length (syn l) 0 (E ++ C) (fun c => (diffs l w (E ++ C)).getD c 0) := by
    intro i hi
    rw [Nat.zero_add]
    exact syn_read hlen hcode hb hd ho i (by omega)
  obtain ⟨u, hu, hu0⟩ := rep_all l.length hN C E (syn l) 0 _ hrep hd hb (fun c hc => by
    rw [diffs_at _ _ _ _ (by rw [List.length_append]; omega), getD_append_r _ _ _ (by omega), show E.length + c - E.length = c by omega]
    intro h0
    exact hCn _ (getD_mem0 hc) (gadd_eq h0))
  rw [Nat.zero_add] at hu
  have hT : ∀ i, i < 4 - E.length → (modL l E).getD i 0 = sm (fun c => loc l.length (C.getD c 0) ^ (i + 1) * u c) C.length := fun i hi => by
    rw [modL_at _ _ _ hi]
    exact hu i (by omega)
  match C, hd, hb, ho, hCb, hCl, hu0, hT with
  | [], hd, hb, ho, hCb, hCl, hu0, hT =>
    rw [List.append_nil] at hd hb ho
    exact not_bad (P := E) (g := []) (by rfl) hlen hcode hb hd ho (hbad [] (by simp [guessL]))
  | [p], hd, hb, ho, hCb, hCl, hu0, hT =>
    have hp := hCb p (by simp)
    simp at hCl
    have h0 := hT 0 (by omega)
    have h1 := hT 1 (by omega)
    have hu := hu0 0 (by simp)
    have e0 : (modL l E).getD 0 0 = loc l.length p * u 0 := by
      rw [h0]
      show 0 + loc l.length p ^ (0 + 1) * u 0 = _
      rw [gpow_succ, gpow_zero]
      grind
    have e1 : (modL l E).getD 1 0 = loc l.length p * loc l.length p * u 0 := by
      rw [h1]
      show 0 + loc l.length p ^ (1 + 1) * u 0 = _
      rw [gpow_succ, gpow_succ, gpow_zero]
      grind
    have hX := loc_ne0 l.length p
    have hne : (modL l E).getD 0 0 ≠ 0 := by rw [e0]; exact gmul_ne hX hu
    have hq : (modL l E).getD 1 0 / (modL l E).getD 0 0 = loc l.length p := by
      rw [e1, e0]
      generalize loc l.length p = X at hX
      generalize u 0 = v at hu
      grind
    have hone : one1 (modL l E) = [[loc l.length p]] := by
      unfold one1
      rw [if_pos ⟨by rw [modL_length]; omega, hne⟩, hq]
    have hpE : p ∉ E := fun h => by
      rw [List.nodup_append] at hd
      exact hd.2.2 _ h p (by simp) rfl
    exact not_bad (P := E ++ [p]) (g := [loc l.length p]) (by rw [addP_loc hN hp hpE]; rfl) hlen hcode hb hd ho (hbad _ (by unfold guessL; rw [hone]; simp))
  | [p, r], hd, hb, ho, hCb, hCl, hu0, hT =>
    simp at hCl
    have hE0 : E = [] := List.eq_nil_of_length_eq_zero (by omega)
    subst hE0
    have hp := hCb p (by simp)
    have hr := hCb r (by simp)
    have hpr : p ≠ r := by
      simp at hd
      exact hd
    have hul := hu0 0 (by simp)
    have hvl := hu0 1 (by simp)
    obtain ⟨X, hX⟩ : ∃ X, X = loc l.length p := ⟨_, rfl⟩
    obtain ⟨Y, hY⟩ : ∃ Y, Y = loc l.length r := ⟨_, rfl⟩
    have hXY : X ≠ Y := fun h => hpr (loc_inj hN hp hr (by rw [← hX, ← hY]; exact h))
    have hX0 : X ≠ 0 := by rw [hX]; exact loc_ne0 _ _
    have hY0 : Y ≠ 0 := by rw [hY]; exact loc_ne0 _ _
    have ht : ∀ i, i < 4 → (modL l []).getD i 0 = X ^ (i + 1) * u 0 + Y ^ (i + 1) * u 1 := fun i hi => by
      rw [hT i (by simpa using hi), hX, hY]
      show 0 + _ + _ = _
      grind
    have e0 := ht 0 (by omega)
    have e1 := ht 1 (by omega)
    have e2 := ht 2 (by omega)
    have e3 := ht 3 (by omega)
    simp only [gpow_succ, gpow_zero] at e0 e1 e2 e3
    generalize u 0 = v at hul e0 e1 e2 e3
    generalize u 1 = z at hvl e0 e1 e2 e3
    have hdet : detT (modL l []) = v * z * X * Y * (X + Y) * (X + Y) := by
      unfold detT
      rw [e0, e1, e2]
      grind
    have hs : X + Y ≠ 0 := fun h => hXY (gadd_eq h)
    have hdet0 : detT (modL l []) ≠ 0 := by
      rw [hdet]
      exact gmul_ne (gmul_ne (gmul_ne (gmul_ne (gmul_ne hul hvl) hX0) hY0) hs) hs
    have ha : aT (modL l []) = X + Y := by
      unfold aT
      have : (modL l []).getD 1 0 * (modL l []).getD 2 0 + (modL l []).getD 0 0 * (modL l []).getD 3 0 = (X + Y) * detT (modL l []) := by
        rw [hdet, e0, e1, e2, e3]
        grind
      rw [this]
      generalize detT (modL l []) = d at hdet0
      grind
    have hb' : bT (modL l []) = X * Y := by
      unfold bT
      have : (modL l []).getD 2 0 * (modL l []).getD 2 0 + (modL l []).getD 1 0 * (modL l []).getD 3 0 = (X * Y) * detT (modL l []) := by
        rw [hdet, e1, e2, e3]
        grind
      rw [this]
      generalize detT (modL l []) = d at hdet0
      grind
    have hroots : rootsT (modL l []) = [X, Y] ∨ rootsT (modL l []) = [Y, X] := by
      refine two_list (by unfold rootsT; exact rootsN_nodup _) hXY fun x => ?_
      unfold rootsT
      rw [mem_rootsN, horner3, ha, hb']
      constructor
      · intro h
        have : (x + X) * (x + Y) = 0 := by grind
        by_cases h1 : x + X = 0
        · exact .inl (gadd_eq h1)
        · by_cases h2 : x + Y = 0
          · exact .inr (gadd_eq h2)
          · exact absurd this (gmul_ne h1 h2)
      · rintro (rfl | rfl) <;> grind
    have hlen2 : (rootsT (modL l [])).length = 2 := by rcases hroots with h | h <;> rw [h] <;> rfl
    have hmem : rootsT (modL l []) ∈ guessL (modL l []) := by
      unfold guessL two2
      rw [if_pos ⟨by rw [modL_length]; rfl, hdet0, hlen2⟩]
      simp
    rcases hroots with h | h
    · refine not_bad (P := [p, r]) (g := rootsT (modL l [])) ?_ hlen hcode hb hd ho (hbad _ hmem)
      rw [h, hX, hY, addP_loc hN hp (by simp), addP_loc hN hr (by simpa using fun h => hpr h.symm)]
      rfl
    · refine not_bad (P := [r, p]) (g := rootsT (modL l [])) ?_ hlen hcode (fun q hq => hb q (by simp at hq ⊢; omega)) (by simpa using fun h => hpr h.symm) (fun q hq hm => ho q hq (by simp at hm ⊢; omega)) (hbad _ hmem)
      rw [h, hX, hY, addP_loc hN hr (by simp), addP_loc hN hp (by simpa using hpr)]
      rfl
  | _ :: _ :: _ :: _, hd, hb, ho, hCb, hCl, hu0, hT => simp at hCl; omega
end Go.Proofs.YtlifghomejdhnaaDoor
end
