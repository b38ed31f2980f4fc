/- Sums of powers, and elimination: in plain Lean. -/
import Derived.Test.YtajccgmeminlhaaGreatDoorSola
set_option linter.unusedVariables false
set_option linter.unusedSimpArgs false
namespace Go.Proofs.YtajccgmeminlhaaGreatDoor
open Go.Proofs.YtajccgmeminlhaaGreatDoor.Gf

def sm (f : Nat → G) : Nat → G
  | 0 => 0
  | n + 1 => sm f n + f n
theorem sm_congr {f g : Nat → G} : ∀ {n : Nat}, (∀ c, c < n → f c = g c) → sm f n = sm g n
  | 0, _ => rfl
  | n + 1, h => by
    unfold sm
    rw [sm_congr (n := n) (fun c hc => h c (by omega)), h n (by omega)]
theorem sm_zero {f : Nat → G} {n : Nat} (h : ∀ c, c < n → f c = 0) : sm f n = 0 := by
  induction n with
  | zero => rfl
  | succ n ih =>
    unfold sm
    rw [ih (fun c hc => h c (by omega)), h n (by omega)]
    grind
theorem sm_add (f g : Nat → G) (n : Nat) : sm (fun c => f c + g c) n = sm f n + sm g n := by
  induction n with
  | zero => unfold sm; grind
  | succ n ih =>
    unfold sm
    rw [ih]
    grind
theorem sm_mul (a : G) (f : Nat → G) (n : Nat) : sm (fun c => a * f c) n = a * sm f n := by
  induction n with
  | zero => unfold sm; grind
  | succ n ih =>
    unfold sm
    rw [ih]
    grind
theorem sm_one {f : Nat → G} {n k : Nat} (hk : k < n) (h : ∀ c, c < n → c ≠ k → f c = 0) : sm f n = f k := by
  induction n with
  | zero => omega
  | succ n ih =>
    unfold sm
    by_cases e : k = n
    · subst e
      rw [sm_zero (fun c hc => h c (by omega) (by omega))]
      grind
    · rw [ih (by omega) (fun c hc hne => h c (by omega) hne), h n (by omega) (by omega)]
      grind
theorem sm_cons (f : Nat → G) (n : Nat) : sm f (n + 1) = f 0 + sm (fun c => f (c + 1)) n := by
  induction n with
  | zero => unfold sm sm; grind
  | succ n ih =>
    rw [sm, ih]
    conv => rhs; rw [sm]
    grind
theorem gpow_succ (a : G) (k : Nat) : a ^ (k + 1) = a ^ k * a := rfl
theorem gpow_zero (a : G) : a ^ 0 = 1 := rfl
theorem gpow_add (a : G) (j k : Nat) : a ^ (j + k) = a ^ j * a ^ k := by
  induction k with
  | zero => rw [Nat.add_zero, gpow_zero]; grind
  | succ k ih => rw [← Nat.add_assoc, gpow_succ, gpow_succ, ih]; grind
theorem gpow_mul (a : G) (j k : Nat) : (a ^ j) ^ k = a ^ (j * k) := by
  induction k with
  | zero => rfl
  | succ k ih => rw [gpow_succ, ih, Nat.mul_succ, gpow_add]
theorem gmul_ne {a b : G} (ha : a ≠ 0) (hb : b ≠ 0) : a * b ≠ 0 := by grind
theorem gadd_eq {a b : G} (h : a + b = 0) : a = b := by grind
theorem gadd_self (a : G) : a + a = 0 := by grind
/-- Columns of powers of different elements. -/
theorem vand : ∀ (n m : Nat) (x v : Nat → G), n ≤ m → (∀ i, i < n → x i ≠ 0) → (∀ i j, i < n → j < n → x i = x j → i = j) →
    (∀ r, r < m → sm (fun c => x c ^ (r + 1) * v c) n = 0) → ∀ c, c < n → v c = 0 := by
  intro n
  induction n with
  | zero => intro m x v _ _ _ _ c hc; omega
  | succ n ih =>
    intro m x v hm h0 hd hs c hc
    obtain ⟨m, rfl⟩ : ∃ m', m = m' + 1 := ⟨m - 1, by omega⟩
    have hv : ∀ c, c < n → v c = 0 := by
      intro c hc
      have := ih m x (fun c => (x c + x n) * v c) (by omega) (fun i hi => h0 i (by omega)) (fun i j hi hj => hd i j (by omega) (by omega)) (fun r hr => by
        have h1 := hs (r + 1) (by omega)
        have h2 := hs r (by omega)
        rw [sm] at h1 h2
        have e : sm (fun c => x c ^ (r + 1) * ((x c + x n) * v c)) n = sm (fun c => x c ^ (r + 1 + 1) * v c) n + x n * sm (fun c => x c ^ (r + 1) * v c) n := by
          rw [← sm_mul, ← sm_add]
          refine sm_congr fun c _ => ?_
          rw [gpow_succ (x c) (r + 1)]
          grind
        rw [e]
        rw [gpow_succ (x n) (r + 1)] at h1
        generalize x n ^ (r + 1) = p at h1 h2
        grind) c hc
      have hne : x c + x n ≠ 0 := fun h => by
        have := hd c n (by omega) (by omega) (gadd_eq h)
        omega
      grind
    by_cases e : c < n
    · exact hv c e
    · obtain rfl : c = n := by omega
      have := hs 0 (by omega)
      rw [sm, sm_zero (fun j hj => by rw [hv j hj]; grind)] at this
      have h1 := h0 c hc
      have h2 : x c ^ (0 + 1) = x c := by rw [gpow_succ, gpow_zero]; grind
      rw [h2] at this
      grind
/-- Whether v solves the rows, the last column taken z times. -/
def Lin (n : Nat) (M : Nat → Nat → G) (v : Nat → G) (z : G) : Prop := ∀ r, r < 4 → sm (fun c => M r c * v c) n = z * M r n
theorem lin_swap {n k t : Nat} {M : Nat → Nat → G} {v : Nat → G} {z : G} (hk : k < 4) (ht : t < 4) : Lin n M v z ↔ Lin n (swapM k t M) v z := by
  constructor
  · intro h r hr
    unfold swapM
    split
    · exact h t ht
    · split
      · exact h k hk
      · exact h r hr
  · intro h r hr
    by_cases e1 : r = t
    · subst e1
      have := h k hk
      unfold swapM at this
      simpa using this
    · by_cases e2 : r = k
      · subst e2
        have := h t ht
        unfold swapM at this
        rw [if_neg (fun h => e1 h.symm), if_pos rfl] at this
        simpa [show ¬ t = r from fun h => e1 h.symm] using this
      · have := h r hr
        unfold swapM at this
        simpa [e1, e2] using this
theorem elim_row {n k r : Nat} {M : Nat → Nat → G} {v : Nat → G} (hr : r ≠ k) : sm (fun c => elimM n k M r c * v c) n = sm (fun c => M r c * v c) n + (M r k / M k k) * sm (fun c => M k c * v c) n := by
  rw [← sm_mul, ← sm_add]
  refine sm_congr fun c hc => ?_
  unfold elimM
  rw [if_pos ⟨hr, by omega⟩]
  grind
theorem elim_k {n k : Nat} {M : Nat → Nat → G} (c : Nat) : elimM n k M k c = M k c := by
  unfold elimM
  rw [if_neg (by omega)]
theorem lin_elim {n k : Nat} {M : Nat → Nat → G} {v : Nat → G} {z : G} (hk : k < 4) : Lin n M v z ↔ Lin n (elimM n k M) v z := by
  have hn : ∀ r, r ≠ k → elimM n k M r n = M r n + (M r k / M k k) * M k n := fun r hr => by unfold elimM; rw [if_pos ⟨hr, Nat.le_refl _⟩]
  constructor
  · intro h r hr
    by_cases e : r = k
    · subst e
      have := h r hr
      simp only [elim_k]
      exact this
    · rw [elim_row e, hn r e, h r hr, h k hk]
      grind
  · intro h r hr
    have hkk := h k hk
    simp only [elim_k] at hkk
    by_cases e : r = k
    · subst e
      exact hkk
    · have := h r hr
      rw [elim_row e, hn r e, hkk] at this
      grind
theorem lin_all {l : List G} {P : List Nat} {k : Nat} {M : Nat → Nat → G} (h : Elim l P k M) (v : Nat → G) (z : G) : Lin P.length (fillM l P 4 0) v z ↔ Lin P.length M v z := by
  induction h with
  | zero => exact Iff.rfl
  | step h hk ht hne ih => exact ih.trans ((lin_swap (by omega) ht).trans (lin_elim (by omega)))
/-- Cleared columns. -/
structure Red (k : Nat) (M : Nat → Nat → G) : Prop where
  off : ∀ c r, c < k → r < 4 → r ≠ c → M r c = 0
  on : ∀ c, c < k → M c c ≠ 0
theorem red_all {l : List G} {P : List Nat} {k : Nat} {M : Nat → Nat → G} (h : Elim l P k M) (hk : k ≤ P.length) : Red k M := by
  induction h with
  | zero => exact ⟨fun c r hc => by omega, fun c hc => by omega⟩
  | @step k t M h hkt ht hne ih =>
    have ih := ih (by omega)
    have hS : ∀ c r, c < k → r < 4 → r ≠ c → swapM k t M r c = 0 := by
      intro c r hc hr hrc
      unfold swapM
      split
      · exact ih.off c t hc ht (by omega)
      · split
        · exact ih.off c k hc (by omega) (by omega)
        · exact ih.off c r hc hr hrc
    have hD : ∀ c, c < k → swapM k t M c c ≠ 0 := by
      intro c hc
      unfold swapM
      rw [if_neg (by omega), if_neg (by omega)]
      exact ih.on c hc
    have hK : swapM k t M k k ≠ 0 := by unfold swapM; rw [if_pos rfl]; exact hne
    generalize swapM k t M = S at hS hD hK
    refine ⟨fun c r hc hr hrc => ?_, fun c hc => ?_⟩
    · by_cases e : r = k
      · subst e
        rw [elim_k]
        exact hS c r (by omega) hr hrc
      · unfold elimM
        rw [if_pos ⟨e, by omega⟩]
        by_cases e2 : c = k
        · subst e2
          grind
        · rw [hS c r (by omega) hr hrc, hS c k (by omega) (by omega) (fun h => e2 h.symm)]
          grind
    · by_cases e : c = k
      · subst e
        rw [elim_k]
        exact hK
      · unfold elimM
        rw [if_pos ⟨e, by omega⟩, hS c k (by omega) (by omega) (fun h => e h.symm)]
        have := hD c (by omega)
        grind
theorem npow_n_ne (k : Nat) : (g2 ^ k) ≠ 0 := fun h => by
  have h2 : (g2 ^ k).n = 0 := by rw [h]; rfl
  rw [npow_lg g2 (by decide)] at h2
  exact (pow_at _ (Nat.mod_lt _ (by omega))).2.2 h2
theorem loc_ne0 (N p : Nat) : loc N p ≠ 0 := npow_n_ne _
theorem g2_lg : lgN g2.n = 1 := by decide
theorem npow_inj {a b : Nat} (ha : a < 63) (hb : b < 63) (h : g2 ^ a = g2 ^ b) : a = b := by
  have h2 : (g2 ^ a).n = (g2 ^ b).n := by rw [h]
  rw [npow_lg g2 (by decide), npow_lg g2 (by decide), g2_lg, Nat.one_mul, Nat.one_mul, Nat.mod_eq_of_lt ha, Nat.mod_eq_of_lt hb] at h2
  have h3 := (pow_at a ha).1
  rw [h2, (pow_at b hb).1] at h3
  exact h3.symm
theorem loc_inj {N p q : Nat} (hN : N ≤ 63) (hp : p < N) (hq : q < N) (h : loc N p = loc N q) : p = q := by
  have := npow_inj (by omega) (by omega) h
  omega
theorem fill_at (l : List G) (P : List Nat) (r c : Nat) (hr : r < 4) (hc : c < P.length) : fillM l P 4 0 r c = loc l.length (P.getD c 0) ^ (r + 1) := by
  unfold fillM
  rw [if_pos hr, if_pos hc]
theorem fill_last (l : List G) (P : List Nat) (r : Nat) (hr : r < 4) : fillM l P 4 0 r P.length = syn l r := by
  unfold fillM
  rw [if_pos hr, if_neg (by omega), if_pos rfl]
theorem nodup_getD {P : List Nat} (h : P.Nodup) {i j : Nat} (hi : i < P.length) (hj : j < P.length) (he : P.getD i 0 = P.getD j 0) : i = j := by
  rw [List.getD_eq_getElem?_getD, List.getElem?_eq_getElem hi, List.getD_eq_getElem?_getD, List.getElem?_eq_getElem hj] at he
  exact (List.getElem_inj h).1 he
theorem getD_mem0 {P : List Nat} {i : Nat} (hi : i < P.length) : P.getD i 0 ∈ P := by
  rw [List.getD_eq_getElem?_getD, List.getElem?_eq_getElem hi]
  exact List.getElem_mem hi
theorem vandP {N : Nat} {P : List Nat} (hN : N ≤ 63) (hP : ∀ p ∈ P, p < N) (hd : P.Nodup) (hn : P.length ≤ 4) (v : Nat → G) (h : ∀ r, r < 4 → sm (fun c => loc N (P.getD c 0) ^ (r + 1) * v c) P.length = 0) : ∀ c, c < P.length → v c = 0 :=
  vand P.length 4 (fun c => loc N (P.getD c 0)) v hn (fun i hi => loc_ne0 _ _) (fun i j hi hj he => nodup_getD hd hi hj (loc_inj hN (hP _ (getD_mem0 hi)) (hP _ (getD_mem0 hj)) he)) h
theorem pivots {l : List G} {P : List Nat} (hl : l.length ≤ 63) (hP : ∀ p ∈ P, p < l.length) (hd : P.Nodup) (hn : P.length ≤ 4) (k : Nat) (M : Nat → Nat → G) (hk : k < P.length) (h : Elim l P k M) : ∃ r, k ≤ r ∧ r < 4 ∧ M r k ≠ 0 := by
  by_cases hx : ∃ r, k ≤ r ∧ r < 4 ∧ M r k ≠ 0
  · exact hx
  · exfalso
    have hz : ∀ r, k ≤ r → r < 4 → M r k = 0 := fun r h1 h2 => by
      by_cases e : M r k = 0
      · exact e
      · exact absurd ⟨r, h1, h2, e⟩ hx
    have hR := red_all h (by omega)
    have hL : Lin P.length M (fun c => if c < k then M c k / M c c else if c = k then 1 else 0) 0 := by
      intro r hr
      have key : ∀ n, k < n → sm (fun c => M r c * (if c < k then M c k / M c c else if c = k then 1 else 0)) n = 0 := by
        intro n hkn
        induction n with
        | zero => omega
        | succ n ih =>
          rw [sm]
          by_cases e : k < n
          · rw [ih e, if_neg (by omega), if_neg (by omega)]
            grind
          · obtain rfl : k = n := by omega
            rw [if_neg (by omega), if_pos rfl]
            by_cases hrk : r < k
            · rw [sm_one (k := r) hrk (fun c hc hne => by rw [hR.off c r hc hr (fun h => hne h.symm)]; grind), if_pos hrk]
              have := hR.on r hrk
              grind
            · rw [sm_zero (fun c hc => by rw [hR.off c r hc hr (by omega)]; grind), hz r (by omega) hr]
              grind
      rw [key P.length hk]
      grind
    have h0 := (lin_all h _ 0).2 hL
    have := vandP hl hP hd hn _ (fun r hr => by
      have := h0 r hr
      rw [← sm_congr (n := P.length) (f := fun c => fillM l P 4 0 r c * (if c < k then M c k / M c c else if c = k then 1 else 0)) (fun c hc => by rw [fill_at l P r c hr hc]), this]
      grind) k hk
    simp at this
    revert this
    decide
/-- What solve answers. -/
def SolveS (l : List G) (P : List Nat) : Option (List G) → Prop
  | some o => o.length = P.length ∧ Lin P.length (fillM l P 4 0) (fun c => o.getD c 0) 1
  | none => P.length < 4 ∧ ∀ v, ¬ Lin P.length (fillM l P 4 0) v 1
def outL (n : Nat) (M : Nat → Nat → G) : List G := (List.range n).map fun i => M i n / M i i
theorem outL_length (n : Nat) (M : Nat → Nat → G) : (outL n M).length = n := by simp [outL]
theorem outL_at (n : Nat) (M : Nat → Nat → G) (i : Nat) (h : i < n) : (outL n M).getD i 0 = M i n / M i i := by
  rw [List.getD_eq_getElem?_getD, List.getElem?_eq_getElem (by simpa [outL] using h)]
  simp [outL]
def outP (n : Nat) (M : Nat → Nat → G) (i : Nat) : List Int := (List.range n).map fun t => if t < i then ((M t n / M t t).n : Int) else 0
theorem outP_length (n : Nat) (M : Nat → Nat → G) (i : Nat) : (outP n M i).length = n := by simp [outP]
theorem outP_zero (n : Nat) (M : Nat → Nat → G) : List.replicate n (0 : Int) = outP n M 0 := by
  unfold outP
  simp [List.map_const']
theorem outP_set (n : Nat) (M : Nat → Nat → G) (i : Nat) (h : i < n) : (outP n M i).set i ((M i n / M i i).n : Int) = outP n M (i + 1) := by
  apply List.ext_getElem (by simp [outP])
  intro j h1 h2
  rw [List.getElem_set]
  have hg : ∀ k (h : j < (outP n M k).length), (outP n M k)[j] = if j < k then ((M j n / M j j).n : Int) else 0 := fun k h => by simp [outP]
  rw [hg, hg]
  by_cases e : i = j
  · subst e
    rw [if_pos rfl, if_pos (by omega)]
  · rw [if_neg e]
    by_cases h3 : j < i
    · rw [if_pos h3, if_pos (by omega)]
    · rw [if_neg h3, if_neg (by omega)]
theorem outP_ge (n : Nat) (M : Nat → Nat → G) (i : Nat) (h : n ≤ i) : outP n M i = ns (outL n M) := by
  unfold outP ns outL
  rw [List.map_map]
  apply List.map_congr_left
  intro t ht
  rw [if_pos (by have := List.mem_range.1 ht; omega)]
  rfl
theorem solve_yes {l : List G} {P : List Nat} {M : Nat → Nat → G} (h : Elim l P P.length M) (hz : ∀ r, P.length ≤ r → r < 4 → M r P.length = 0) : SolveS l P (some (outL P.length M)) := by
  refine ⟨outL_length _ _, (lin_all h _ 1).2 fun r hr => ?_⟩
  have hR := red_all h (Nat.le_refl _)
  by_cases hrn : r < P.length
  · rw [sm_one (k := r) hrn (fun c hc hne => by rw [hR.off c r hc hr (fun h => hne h.symm)]; grind), outL_at _ _ _ hrn]
    have := hR.on r hrn
    grind
  · rw [sm_zero (fun c hc => by rw [hR.off c r hc hr (by omega)]; grind), hz r (by omega) hr]
    grind
theorem solve_no {l : List G} {P : List Nat} {M : Nat → Nat → G} (h : Elim l P P.length M) (r : Nat) (h1 : P.length ≤ r) (h2 : r < 4) (h3 : M r P.length ≠ 0) : SolveS l P none := by
  refine ⟨by omega, ?_⟩
  intro v hv
  have hL := (lin_all h v 1).1 hv
  have hR := red_all h (Nat.le_refl _)
  have := hL r h2
  rw [sm_zero (fun c hc => by rw [hR.off c r hc h2 (by omega)]; grind)] at this
  exact h3 (by grind)
end Go.Proofs.YtajccgmeminlhaaGreatDoor
