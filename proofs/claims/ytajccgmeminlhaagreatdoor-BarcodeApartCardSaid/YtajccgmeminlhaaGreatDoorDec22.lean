/- Decode's answer for any list of places; a code word is read as it is; what was sent is within the bound. -/
import Derived.Test.YtajccgmeminlhaaGreatDoorNear
set_option linter.unusedVariables false
set_option linter.unusedSimpArgs false
namespace Go.Proofs.YtajccgmeminlhaaGreatDoor
open Go.RowKit Go.Shelf Go.Proofs.YtajccgmeminlhaaGreatDoorW.PrintWords Go.Proofs.YtajccgmeminlhaaGreatDoorW.PrintLast Go.Proofs.YtajccgmeminlhaaGreatDoorW.PrintMore Go.Proofs.YtajccgmeminlhaaGreatDoor.Q Go.Proofs.YtajccgmeminlhaaGreatDoor.Gf
theorem below_al (w : World) (o : Obj) : Below w.heap.size w (w.alloc o) := (Below.refl _ w).alloc (Nat.le_refl _) o
theorem info_bool : (Tryz.prog.info? 4).map (fun i => (i.zero, i.size, i.bytes)) = some (some (.bool false), 1, 1) := by kernel_rfl
theorem own_crow' {k : IntKind} {e : TypeId} {W : World} {base : Nat} {v : Value} {l : List Int} {n : Nat} (h : Own k e W base v l) (hn : l.length = n) (hl : 0 < n) : ∃ g c, v = .slice (some ⟨g, 0, none⟩) n c ∧ n ≤ c ∧ base ≤ g ∧ CRow (Value.int k) 0 W g l := by
  subst hn
  exact own_crow h hl
theorem nodup_len : ∀ (a b : List Nat), a.Nodup → (∀ x ∈ a, x ∈ b) → a.length ≤ b.length
  | [], _, _, _ => by simp
  | x :: a, b, hn, h => by
    rw [List.nodup_cons] at hn
    have hx := h x (by simp)
    have := nodup_len a (b.erase x) hn.2 fun y hy => (List.mem_erase_of_ne (fun (e : y = x) => hn.1 (e ▸ hy))).2 (h y (by simp [hy]))
    rw [List.length_erase_of_mem hx] at this
    have := List.length_pos_of_mem hx
    simp
    omega
theorem near_len {l w : List G} {P : List Nat} (h : Near l P w) : 2 * (errL l P w).length + P.length ≤ 4 := by
  obtain ⟨C, hd, hb, h4, hq⟩ := h.bound
  have := nodup_len (errL l P w) C ((errL_sorted l P w).imp (fun h => Nat.ne_of_lt h)) fun p hp => by
    obtain ⟨h1, h2, h3⟩ := mem_errL.1 hp
    exact Classical.byContradiction fun hc => h3 (hq p h1 h2 hc).symm
  omega
def errF (l : List G) (P : List Nat) (w : List G) (p : Nat) : Bool := decide (p ∉ P) && decide (l.getD p 0 ≠ w.getD p 0)
def errK (l : List G) (P : List Nat) (w : List G) (p : Nat) : List Nat := (List.range p).filter (errF l P w)
theorem errK_all (l : List G) (P : List Nat) (w : List G) : errK l P w l.length = errL l P w := rfl
theorem errK_succ (l : List G) (P : List Nat) (w : List G) (p : Nat) : errK l P w (p + 1) = errK l P w p ++ (if errF l P w p then [p] else []) := by
  unfold errK
  rw [List.range_succ, List.filter_append]
  cases h : errF l P w p <;> simp [h]
theorem errK_pre (l : List G) (P : List Nat) (w : List G) (p : Nat) : ∀ n, ∃ t, errK l P w (p + n) = errK l P w p ++ t
  | 0 => ⟨[], by simp⟩
  | n + 1 => by
    obtain ⟨t, ht⟩ := errK_pre l P w p n
    exact ⟨t ++ (if errF l P w (p + n) then [p + n] else []), by rw [← Nat.add_assoc, errK_succ, ht, List.append_assoc]⟩
theorem errK_at {l : List G} {P : List Nat} {w : List G} {p : Nat} (hp : p < l.length) (h : errF l P w p = true) : (errK l P w p).length < (errL l P w).length ∧ (errL l P w).getD (errK l P w p).length 0 = p := by
  obtain ⟨t, ht⟩ := errK_pre l P w (p + 1) (l.length - (p + 1))
  rw [show p + 1 + (l.length - (p + 1)) = l.length by omega, errK_all, errK_succ, h, if_pos rfl] at ht
  rw [ht]
  refine ⟨by simp, ?_⟩
  rw [List.getD_eq_getElem?_getD, List.append_assoc, List.getElem?_append_right (Nat.le_refl _), Nat.sub_self]
  rfl
/-- Which of the places below N are in a list. -/
def marks (N : Nat) (P : List Nat) : List Bool := (List.range N).map fun p => decide (p ∈ P)
theorem marks_length (N : Nat) (P : List Nat) : (marks N P).length = N := by simp [marks]
theorem marks_at (N : Nat) (P : List Nat) (p : Nat) (h : p < N) : (marks N P).getD p false = decide (p ∈ P) := by
  unfold marks
  rw [List.getD_eq_getElem?_getD, List.getElem?_map, List.getElem?_range h]
  rfl
theorem marks_nil (N : Nat) : marks N [] = List.replicate N false := by
  unfold marks
  apply List.ext_getElem (by simp)
  intro i h1 h2
  simp
theorem marks_set (N : Nat) (P : List Nat) (q : Nat) (h : q < N) : (marks N P).set q true = marks N (P ++ [q]) := by
  unfold marks
  apply List.ext_getElem (by simp)
  intro i h1 h2
  rw [List.getElem_set]
  simp only [List.getElem_map, List.getElem_range, List.mem_append, List.mem_singleton]
  by_cases e : q = i
  · simp [e]
  · rw [if_neg e]
    have : ¬ i = q := fun h => e h.symm
    simp [this]
theorem nodup_take {P : List Nat} (h : P.Nodup) {i : Nat} (hi : i < P.length) : P.getD i 0 ∉ P.take i := fun hm => by
  obtain ⟨j, hj, e⟩ := List.mem_iff_getElem.1 hm
  rw [List.length_take] at hj
  rw [List.getElem_take] at e
  have := nodup_getD h (i := j) (j := i) (by omega) hi (by rw [List.getD_eq_getElem?_getD, List.getElem?_eq_getElem (by omega)]; exact e)
  omega
theorem errL_self (x : List G) : errL x [] x = [] := by
  unfold errL
  rw [List.filter_eq_nil_iff]
  intro a _
  simp
theorem near_self {x : List G} {P : List Nat} (hc : Code x) (hd : P.Nodup) (h4 : P.length ≤ 4) : Near x P x := ⟨rfl, hc, [], by simpa using hd, by simp, by simpa using h4, fun _ _ _ _ => rfl⟩
/-- What Decode answers, for places that are a list of places. -/
theorem Dec_all (A : Option Addr) (c : Nat) (l : List G) (A1 : Option Addr) (c1 : Nat) (P : List Nat) (w : World) (hp : PW w) (hr : Kd.C (Kd.int .u8) w A l.length (ns l)) (hc : l.length ≤ c) (h4 : 4 < l.length) (hn : l.length ≤ 63) (hr1 : Kd.C (Kd.int .i64) w A1 P.length (is P)) (hc1 : P.length ≤ c1) (hn1 : P.length ≤ 60) (hPb : ∀ p ∈ P, p < l.length) (hPd : P.Nodup) :
    Calls Tryz.prog 45 #[.slice A l.length c, .slice A1 P.length c1] w fun e w' =>
      ((e = .returned (.tuple #[.agg #[.slice none 0 0, .slice none 0 0], .int .i64 190]) ∧ (4 < P.length ∨ ∀ x, ¬ Near l P x)) ∨
        (P.length ≤ 4 ∧ ∃ x g cx AE cE, e = .returned (.tuple #[.agg #[.slice (some ⟨g, 0, none⟩) l.length cx, .slice AE (errL l P x).length cE], .int .i64 0]) ∧ Near l P x ∧ l.length ≤ cx ∧ (errL l P x).length ≤ cE ∧ CRow (Value.int .u8) 0 w' g (ns x) ∧ Kd.C (Kd.int .i64) w' AE (errL l P x).length (is (errL l P x)))) ∧ Below w.heap.size w w' := by
  by_cases hP : 4 < P.length
  · have hok : ∀ i, i < (is P).length → okAt l.length (is P) i := fun i hi => by
      rw [is_length] at hi
      unfold okAt
      rw [is_getD, is_take, is_mem]
      have := hPb _ (getD_mem0 hi)
      exact ⟨by omega, by omega, nodup_take hPd hi⟩
    have h := Dec_places A c l A1 (is P) c1 w hr hc h4 hn (by rw [is_length]; exact hr1) (by rw [is_length]; exact hc1) (by rw [is_length]; omega) (fun _ => by rw [is_length]; exact hP)
    rw [is_length] at h hok
    refine h.mono ?_
    rintro e w' ⟨n, rfl, hn | hn, hb⟩
    · exact absurd hok hn.2
    · obtain ⟨rfl, _⟩ := hn
      exact ⟨.inl ⟨rfl, .inl hP⟩, hb⟩
  · refine (Dec_main A c l A1 c1 P w hp hr hc h4 hn hr1 hc1 (by omega) hPb hPd).mono ?_
    rintro e w' ⟨r, hS, hR, hB⟩
    refine ⟨?_, hB⟩
    cases r with
    | none =>
      have hR : e = .returned (.tuple #[.agg #[.slice none 0 0, .slice none 0 0], .int .i64 190]) := hR
      subst hR
      exact .inl ⟨rfl, .inr fun x => dec_none hn hPd hPb hS⟩
    | some xe =>
      obtain ⟨x, er⟩ := xe
      obtain ⟨g, hg, hgood⟩ := hS
      obtain ⟨h1, h2⟩ := dec_some hPd hPb (by omega) hg hgood
      subst h2
      obtain ⟨g, cx, v, rfl, h3, h5, h6, h7⟩ := hR
      obtain ⟨AE, cE, rfl, hcE, hrE⟩ := Kd.R_reads h7.toR
      rw [is_length] at hcE hrE ⊢
      rw [h1.len] at h3 ⊢
      exact .inr ⟨by omega, x, g, cx, AE, cE, rfl, h1, h3, hcE, h6, hrE⟩
/-- Decode reads a code word as it is. -/
theorem Dec_self (gx cx : Nat) (x : List G) (N : Nat) (hxl : x.length = N) (W : World) (hp : PW W) (hrx : CRow (Value.int .u8) 0 W gx (ns x)) (hcx : N ≤ cx) (h4 : 4 < N) (hn : N ≤ 63) (hc : Code x) :
    Calls Tryz.prog 45 #[.slice (some ⟨gx, 0, none⟩) N cx, .slice none 0 0] W fun e w' => ∃ g cy AF cF, e = .returned (.tuple #[.agg #[.slice (some ⟨g, 0, none⟩) N cy, .slice AF 0 cF], .int .i64 0]) ∧ N ≤ cy ∧ CRow (Value.int .u8) 0 w' g (ns x) ∧ Below W.heap.size W w' := by
  subst hxl
  have h := Dec_near (some ⟨gx, 0, none⟩) cx x none 0 [] x W hp (by have := hrx.reads (by rw [ns_length]; omega); rwa [ns_length] at this) hcx h4 hn (Kd.C_nil _ _) (Nat.le_refl _) (by decide) (by simp) List.nodup_nil (near_self hc List.nodup_nil (by decide))
  rw [errL_self] at h
  refine h.mono ?_
  rintro e w' ⟨g, cy, AF, cF, rfl, h1, -, -, h2, -, h3⟩
  exact ⟨g, cy, AF, cF, rfl, h1, h2, h3⟩
/-- What was sent is within the bound of what is read, if the places that were changed are few. -/
theorem near_sent {O R : List G} {E : List Nat} (hl : R.length = O.length) (hc : Code R) (hd : E.Nodup) (h : 2 * (errL O E R).length + E.length ≤ 4) : Near O E R := by
  refine ⟨hl, hc, errL O E R, ?_, fun p hp => (mem_errL.1 hp).1, h, fun p hp h1 h2 => ?_⟩
  · rw [List.nodup_append]
    refine ⟨hd, (errL_sorted O E R).imp (fun h => Nat.ne_of_lt h), fun a ha b hb e => ?_⟩
    subst e
    exact (mem_errL.1 hb).2.1 ha
  · exact Classical.byContradiction fun hc => h2 (mem_errL.2 ⟨hp, h1, fun e => hc e.symm⟩)
end Go.Proofs.YtajccgmeminlhaaGreatDoor
