/- Plain words for the law BarsBack: letters that become unclear. -/
import Derived.Test.YtofheegapiicoaaMem
import Derived.Test.YtofheegapiicoaaTurnPure
set_option linter.unusedVariables false
set_option linter.unusedSimpArgs false
namespace Go.Proofs.Ytofheegapiicoaa
open Go.RowKit Go.Shelf Go.Proofs.YtofheegapiicoaaW.PrintWords

/-- Symbols out of bytes. -/
def md (l : List Int) : List Int := l.map fun b => b % 64
theorem md_append (a b : List Int) : md (a ++ b) = md a ++ md b := List.map_append
theorem md_length (a : List Int) : (md a).length = a.length := List.length_map _
theorem md_range {l : List Int} {x : Int} (h : x ∈ md l) : 0 ≤ x ∧ x ≤ 63 := by
  unfold md at h
  obtain ⟨y, _, rfl⟩ := List.mem_map.1 h
  omega
theorem writeW_ok (S : List Int) (hn : S.length ≤ 66) (h : ∀ x ∈ S, x ≤ 63) : writeW S = (⟨(writeText S).toArray⟩, 0) := by
  have : symsOK S = true := by
    unfold symsOK
    rw [List.all_eq_true]
    intro x hx
    simpa using h x hx
  unfold writeW
  rw [if_neg (by omega), if_pos this]
theorem write_f (S : List Int) (hn : S.length ≤ 66) (h : ∀ x ∈ S, 0 ≤ x ∧ x ≤ 63) : bars_Write.f S = some (⟨(writeText S).toArray⟩, 0) := by
  unfold bars_Write.f
  rw [if_pos (fun x hx => (h x hx).1), writeW_ok S hn (fun x hx => (h x hx).2)]

/-- The letters of symbols, as numbers. -/
def W0 (S : List Int) : List Int := (writeText S).map fun b => (b.toNat : Int)
theorem bytesOf_write (S : List Int) : bytesOf ⟨(writeText S).toArray⟩ = W0 S := rfl
theorem W0_length (S : List Int) : (W0 S).length = 3 * S.length := by rw [W0, List.length_map, writeText_length]
theorem W0_at : ∀ (S : List Int) (i : Nat), i < S.length → (W0 S).getD (3 * i) 0 = ((lb (S.getD i 0 / 16)).toNat : Int) ∧ (W0 S).getD (3 * i + 1) 0 = ((lb (S.getD i 0 / 4 % 4)).toNat : Int) ∧ (W0 S).getD (3 * i + 2) 0 = ((lb (S.getD i 0 % 4)).toNat : Int) := by
  intro S
  induction S with
  | nil => intro i h; exact absurd h (by simp)
  | cons x S ih =>
    intro i h
    cases i with
    | zero => exact ⟨rfl, rfl, rfl⟩
    | succ i =>
      have := ih i (by simpa using h)
      have e1 : 3 * (i + 1) = 3 * i + 3 := by omega
      rw [e1]
      simpa [W0, writeText, List.getD_cons_succ] using this
theorem st_lb4 (i : Int) (h0 : 0 ≤ i) (h1 : i < 4) : st ((lb i).toNat : Int) = i := by
  obtain ⟨n, rfl⟩ := Int.eq_ofNat_of_zero_le h0
  have : n < 4 := by omega
  match n, this with
  | 0, _ => decide
  | 1, _ => decide
  | 2, _ => decide
  | 3, _ => decide
/-- The state of each letter of symbols. -/
theorem W0_st (S : List Int) (hS : ∀ x ∈ S, 0 ≤ x ∧ x ≤ 63) (i : Nat) (hi : i < S.length) :
    st ((W0 S).getD (3 * i) 0) = S.getD i 0 / 16 ∧ st ((W0 S).getD (3 * i + 1) 0) = S.getD i 0 / 4 % 4 ∧ st ((W0 S).getD (3 * i + 2) 0) = S.getD i 0 % 4 := by
  obtain ⟨a, b, c⟩ := W0_at S i hi
  have hx : S.getD i 0 ∈ S := by
    rw [List.getD_eq_getElem?_getD, List.getElem?_eq_getElem hi]
    exact List.getElem_mem hi
  have := hS _ hx
  rw [a, b, c]
  exact ⟨st_lb4 _ (by omega) (by omega), st_lb4 _ (by omega) (by omega), st_lb4 _ (by omega) (by omega)⟩

/-- One letter becomes unclear. -/
def stepL (N : Nat) (L : List Int) (u : Int) : List Int := L.set (u.toNat % N) 63
def stepH (N : Nat) (H : List Bool) (u : Int) : List Bool := H.set (u.toNat % N / 3) true
def hitsL (N : Nat) (L : List Int) (us : List Int) : List Int := us.foldl (stepL N) L
def hitsH (N : Nat) (H : List Bool) (us : List Int) : List Bool := us.foldl (stepH N) H
theorem hitsL_snoc (N : Nat) (L : List Int) (us : List Int) (u : Int) : hitsL N L (us ++ [u]) = stepL N (hitsL N L us) u := by simp [hitsL]
theorem hitsH_snoc (N : Nat) (H : List Bool) (us : List Int) (u : Int) : hitsH N H (us ++ [u]) = stepH N (hitsH N H us) u := by simp [hitsH]
theorem hitsL_length (N : Nat) (us : List Int) : ∀ L, (hitsL N L us).length = L.length := by
  induction us with
  | nil => intro L; rfl
  | cons u us ih => intro L; show (hitsL N (stepL N L u) us).length = _; rw [ih]; simp [stepL]
theorem hitsH_length (N : Nat) (us : List Int) : ∀ H, (hitsH N H us).length = H.length := by
  induction us with
  | nil => intro L; rfl
  | cons u us ih => intro H; show (hitsH N (stepH N H u) us).length = _; rw [ih]; simp [stepH]
/-- What stays true while letters become unclear. -/
structure Inv (n : Nat) (L0 L : List Int) (H : List Bool) : Prop where
  len : L.length = 3 * n
  lenH : H.length = n
  hit : ∀ i, i < n → H.getD i false = true → L.getD (3 * i) 0 = 63 ∨ L.getD (3 * i + 1) 0 = 63 ∨ L.getD (3 * i + 2) 0 = 63
  keep : ∀ i, i < n → H.getD i false = false → L.getD (3 * i) 0 = L0.getD (3 * i) 0 ∧ L.getD (3 * i + 1) 0 = L0.getD (3 * i + 1) 0 ∧ L.getD (3 * i + 2) 0 = L0.getD (3 * i + 2) 0
  one : ∀ j, L.getD j 0 = 63 ∨ L.getD j 0 = L0.getD j 0
theorem getD_set {α : Type} (l : List α) (i j : Nat) (x d : α) : (l.set i x).getD j d = if i = j ∧ j < l.length then x else l.getD j d := by
  simp only [List.getD_eq_getElem?_getD, List.getElem?_set]
  by_cases h : i = j
  · subst h
    by_cases h2 : i < l.length
    · simp [h2]
    · simp [h2, List.getElem?_eq_none (Nat.le_of_not_lt h2)]
  · simp [h]
theorem Inv.step {n : Nat} {L0 L : List Int} {H : List Bool} (h : Inv n L0 L H) (u : Int) : Inv n L0 (stepL (3 * n) L u) (stepH (3 * n) H u) := by
  have hl := h.len
  have hh := h.lenH
  rcases Nat.eq_zero_or_pos n with rfl | hn
  · have e1 : L = [] := List.eq_nil_of_length_eq_zero (by omega)
    have e2 : H = [] := List.eq_nil_of_length_eq_zero (by omega)
    subst e1 e2
    exact ⟨by simp [stepL], by simp [stepH], fun i hi => by omega, fun i hi => by omega, fun j => by simpa [stepL] using h.one j⟩
  · have hq : u.toNat % (3 * n) < 3 * n := Nat.mod_lt _ (by omega)
    generalize hqe : u.toNat % (3 * n) = q at hq
    refine ⟨by simp [stepL, hl], by simp [stepH, hh], fun i hi => ?_, fun i hi => ?_, fun j => ?_⟩
    · simp only [stepL, stepH, hqe, getD_set, hl, hh]
      intro hH
      by_cases e : q / 3 = i
      · have : q = 3 * i ∨ q = 3 * i + 1 ∨ q = 3 * i + 2 := by omega
        rcases this with e2 | e2 | e2
        · left; rw [if_pos ⟨e2, by omega⟩]
        · right; left; rw [if_pos ⟨e2, by omega⟩]
        · right; right; rw [if_pos ⟨e2, by omega⟩]
      · rw [if_neg (fun h2 => e h2.1)] at hH
        have := h.hit i hi hH
        rw [if_neg (by omega), if_neg (by omega), if_neg (by omega)]
        exact this
    · simp only [stepL, stepH, hqe, getD_set, hl, hh]
      intro hH
      by_cases e : q / 3 = i
      · rw [if_pos ⟨e, hi⟩] at hH
        cases hH
      · rw [if_neg (fun h2 => e h2.1)] at hH
        have := h.keep i hi hH
        rw [if_neg (by omega), if_neg (by omega), if_neg (by omega)]
        exact this
    · simp only [stepL, hqe, getD_set, hl]
      split
      · exact .inl rfl
      · exact h.one j
theorem inv_start (S : List Int) : Inv S.length (W0 S) (W0 S) (List.replicate S.length false) := by
  refine ⟨W0_length S, by simp, fun i hi h => ?_, fun i hi h => ⟨rfl, rfl, rfl⟩, fun j => .inr rfl⟩
  simp [List.getD_eq_getElem?_getD, List.getElem?_replicate, hi] at h
theorem inv_hits (n : Nat) (L0 : List Int) (us : List Int) : ∀ L H, Inv n L0 L H → Inv n L0 (hitsL (3 * n) L us) (hitsH (3 * n) H us) := by
  induction us with
  | nil => intro L H h; exact h
  | cons u us ih => intro L H h; exact ih _ _ (h.step u)

/-- What is read of the letters. -/
theorem gl_nums (L : List Int) (hL : ∀ x ∈ L, 0 ≤ x ∧ x < 256) (j : Nat) (hj : j < L.length) : gl (strOfNums L) j = st (L.getD j 0) := by
  have hx : L.getD j 0 ∈ L := by
    rw [List.getD_eq_getElem?_getD, List.getElem?_eq_getElem hj]
    exact List.getElem_mem hj
  have hb := hL _ hx
  unfold gl
  rw [strOfNums_data]
  congr 1
  rw [List.getD_eq_getElem?_getD, List.getElem?_map, List.getElem?_eq_getElem hj]
  rw [List.getD_eq_getElem?_getD, List.getElem?_eq_getElem hj] at hb
  rw [List.getD_eq_getElem?_getD, List.getElem?_eq_getElem hj]
  simp only [Option.map_some, Option.getD_some] at hb ⊢
  rw [UInt8.toNat_ofNat']
  omega
theorem letters_nums (L : List Int) (hL : ∀ x ∈ L, 0 ≤ x ∧ x < 256) (hs : ∀ j, j < L.length → 0 ≤ st (L.getD j 0)) : lettersAll (strOfNums L) = true := by
  apply lettersAll_of
  intro k hk
  rw [← gl_at _ k hk, gl_nums L hL k (by rw [strOfNums_size] at hk; exact hk)]
  exact hs k (by rw [strOfNums_size] at hk; exact hk)
theorem st63 : st 63 = 4 := by decide
theorem erased_prefix (g : Nat → Int) (i d : Nat) : ∃ t, erasedOf g (i + d) = erasedOf g i ++ t := by
  induction d with
  | zero => exact ⟨[], by simp⟩
  | succ d ih =>
    obtain ⟨t, ht⟩ := ih
    rw [← Nat.add_assoc]
    cases h : unclear g (i + d) with
    | true => exact ⟨t ++ [((i + d : Nat) : Int)], by rw [erasedOf_yes _ _ h, ht, List.append_assoc]⟩
    | false => exact ⟨t, by rw [erasedOf_no _ _ h, ht]⟩
theorem erased_at (g : Nat → Int) (i n : Nat) (hi : i < n) (h : unclear g i = true) : (erasedOf g i).length < (erasedOf g n).length ∧ (erasedOf g n).getD (erasedOf g i).length 0 = (i : Int) := by
  obtain ⟨t, ht⟩ := erased_prefix g (i + 1) (n - (i + 1))
  rw [show i + 1 + (n - (i + 1)) = n by omega, erasedOf_yes _ _ h, List.append_assoc] at ht
  rw [ht]
  refine ⟨by simp, ?_⟩
  rw [List.getD_eq_getElem?_getD, List.getElem?_append_right (Nat.le_refl _)]
  simp
theorem syms_at (g : Nat → Int) (i n : Nat) (hi : i < n) : (symsOf g n).getD i 0 = symOf (g (3 * i)) (g (3 * i + 1)) (g (3 * i + 2)) := by
  rw [List.getD_eq_getElem?_getD]
  simp [symsOf, hi]

/-- The end of the law: what is read of the letters behind the hits. -/
structure Told (S : List Int) (L : List Int) (H : List Bool) : Prop where
  read : bars_Read.f (strOfNums L) = some (symsOf (gl (strOfNums L)) S.length, erasedOf (gl (strOfNums L)) S.length, 0)
  un : ∀ i, i < S.length → unclear (gl (strOfNums L)) i = H.getD i false
  sym : ∀ i, i < S.length → H.getD i false = false → symOf (gl (strOfNums L) (3 * i)) (gl (strOfNums L) (3 * i + 1)) (gl (strOfNums L) (3 * i + 2)) = S.getD i 0
  zero : ∀ i, i < S.length → H.getD i false = true → symOf (gl (strOfNums L) (3 * i)) (gl (strOfNums L) (3 * i + 1)) (gl (strOfNums L) (3 * i + 2)) = 0
theorem told_of (S : List Int) (hn : S.length ≤ 60) (hS : ∀ x ∈ S, 0 ≤ x ∧ x ≤ 63) (L : List Int) (H : List Bool) (h : Inv S.length (W0 S) L H) : Told S L H := by
  have hW : ∀ j, j < 3 * S.length → ∃ c, 0 ≤ c ∧ c < 4 ∧ (W0 S).getD j 0 = ((lb c).toNat : Int) ∧ st ((W0 S).getD j 0) = c := by
    intro j hj
    obtain ⟨i, hi, e⟩ : ∃ i, i < S.length ∧ (j = 3 * i ∨ j = 3 * i + 1 ∨ j = 3 * i + 2) := ⟨j / 3, by omega, by omega⟩
    obtain ⟨a, b, c⟩ := W0_at S i hi
    have hx : S.getD i 0 ∈ S := by
      rw [List.getD_eq_getElem?_getD, List.getElem?_eq_getElem hi]
      exact List.getElem_mem hi
    have hb := hS _ hx
    rcases e with rfl | rfl | rfl
    · exact ⟨S.getD i 0 / 16, by omega, by omega, a, by rw [a]; exact st_lb4 _ (by omega) (by omega)⟩
    · exact ⟨S.getD i 0 / 4 % 4, by omega, by omega, b, by rw [b]; exact st_lb4 (S.getD i 0 / 4 % 4) (by omega) (by omega)⟩
    · exact ⟨S.getD i 0 % 4, by omega, by omega, c, by rw [c]; exact st_lb4 (S.getD i 0 % 4) (by omega) (by omega)⟩
  have hst : ∀ j, j < 3 * S.length → 0 ≤ st (L.getD j 0) ∧ (st (L.getD j 0) = 4 ↔ L.getD j 0 = 63) := by
    intro j hj
    obtain ⟨c, hc0, hc4, e1, e2⟩ := hW j hj
    rcases h.one j with e | e
    · rw [e, st63]; exact ⟨by omega, by simp⟩
    · rw [e, e2]
      refine ⟨hc0, fun h4 => by omega, fun h63 => ?_⟩
      rw [h63, st63] at e2
      omega
  have hL : ∀ x ∈ L, 0 ≤ x ∧ x < 256 := by
    intro x hx
    obtain ⟨j, hj, rfl⟩ := List.getElem_of_mem hx
    have hj2 : j < 3 * S.length := by rw [← h.len]; exact hj
    have e : L.getD j 0 = L[j] := by rw [List.getD_eq_getElem?_getD, List.getElem?_eq_getElem hj]; rfl
    have := hst j hj2
    rw [e] at this
    have := st_lt _ this.1
    omega
  have hg : ∀ j, j < 3 * S.length → gl (strOfNums L) j = st (L.getD j 0) := fun j hj => gl_nums L hL j (by rw [h.len]; exact hj)
  have hsz : (strOfNums L).size = 3 * S.length := by rw [strOfNums_size, h.len]
  refine ⟨?_, fun i hi => ?_, fun i hi hH => ?_, fun i hi hH => ?_⟩
  · have hck : checkW (strOfNums L) 0 = 0 := check_ok _ 0 (by rw [hsz]; omega) (letters_nums L hL (fun j hj => (hst j (by rw [← h.len]; exact hj)).1))
    unfold bars_Read.f readW
    rw [if_pos (by rw [hsz]; omega), if_pos hck, if_pos (by rw [hsz]; omega), hsz, Nat.mul_div_cancel_left _ (by omega)]
  · have a := hst (3 * i) (by omega)
    have b := hst (3 * i + 1) (by omega)
    have c := hst (3 * i + 2) (by omega)
    rw [Bool.eq_iff_iff]
    unfold unclear
    rw [decide_eq_true_iff, hg _ (by omega), hg _ (by omega), hg _ (by omega), a.2, b.2, c.2]
    constructor
    · intro h2
      cases hH : H.getD i false with
      | true => rfl
      | false =>
        exfalso
        obtain ⟨k1, k2, k3⟩ := h.keep i hi hH
        obtain ⟨c1, _, hc1, _, e1⟩ := hW (3 * i) (by omega)
        obtain ⟨c2, _, hc2, _, e2⟩ := hW (3 * i + 1) (by omega)
        obtain ⟨c3, _, hc3, _, e3⟩ := hW (3 * i + 2) (by omega)
        rcases h2 with h2 | h2 | h2
        · rw [k1] at h2; rw [h2, st63] at e1; omega
        · rw [k2] at h2; rw [h2, st63] at e2; omega
        · rw [k3] at h2; rw [h2, st63] at e3; omega
    · exact h.hit i hi
  · obtain ⟨k1, k2, k3⟩ := h.keep i hi hH
    obtain ⟨a, b, c⟩ := W0_st S hS i hi
    have hx : S.getD i 0 ∈ S := by
      rw [List.getD_eq_getElem?_getD, List.getElem?_eq_getElem hi]
      exact List.getElem_mem hi
    have hb := hS _ hx
    rw [hg _ (by omega), hg _ (by omega), hg _ (by omega), k1, k2, k3, a, b, c]
    unfold symOf
    rw [if_neg (by omega)]
    omega
  · have := h.hit i hi hH
    rw [hg _ (by omega), hg _ (by omega), hg _ (by omega)]
    unfold symOf
    rw [if_pos]
    rcases this with e | e | e
    · left; rw [e, st63]
    · right; left; rw [e, st63]
    · right; right; rw [e, st63]
end Go.Proofs.Ytofheegapiicoaa
