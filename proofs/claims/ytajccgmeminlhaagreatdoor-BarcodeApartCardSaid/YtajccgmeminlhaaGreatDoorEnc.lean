/- Own rows as cells; solomon.Valid, Syndromes: walks. -/
import Derived.Test.YtajccgmeminlhaaGreatDoorSolPure
import Derived.ChangeKeysEq
set_option linter.unusedVariables false
set_option linter.unusedSimpArgs false
namespace Go.Proofs.YtajccgmeminlhaaGreatDoor
open Go.RowKit Go.Shelf Go.Proofs.YtajccgmeminlhaaGreatDoorW.PrintWords Go.Proofs.YtajccgmeminlhaaGreatDoorW.PrintLast Go.Proofs.YtajccgmeminlhaaGreatDoor.Q Go.Proofs.YtajccgmeminlhaaGreatDoor.Gf

theorem own_crow {k : IntKind} {e : TypeId} {W : World} {base : Nat} {v : Value} {l : List Int} (h : Own k e W base v l) (hl : 0 < l.length) : ∃ g c, v = .slice (some ⟨g, 0, none⟩) l.length c ∧ l.length ≤ c ∧ base ≤ g ∧ CRow (Value.int k) 0 W g l := by
  rcases h.2 with ⟨_, h0⟩ | ⟨g, cap, cur, hv, hb, hg, hc, _, hs, ht⟩
  · omega
  · refine ⟨g, cap, hv, hc, hb, ?_, fun j hj => ?_, fun j hj => ?_⟩
    · exact (Array.getElem?_eq_some_iff.1 hg).1
    · have h1 : (cur.toList.take (l.length * 1))[j]? = (nums k l)[j]? := by rw [ht]
      rw [List.getElem?_take] at h1
      unfold World.cell?
      rw [hg]
      simp only [Nat.mul_one, hj, if_true, Array.getElem?_toList] at h1
      simp [h1, nums, List.getD_eq_getElem?_getD, List.getElem?_eq_getElem hj]
    · unfold World.frozen?
      rw [hg]
      simp
theorem word_ns {l : List Int} (h0 : ∀ x ∈ l, 0 ≤ x) (hw : wordW l = true) : ∃ L : List G, l = ns L ∧ 4 < L.length ∧ L.length ≤ 63 := by
  unfold wordW at hw
  simp only [Bool.and_eq_true, decide_eq_true_eq, Bool.not_eq_true'] at hw
  obtain ⟨⟨h1, h2⟩, h3⟩ := hw
  have key : ∀ l : List Int, (∀ x ∈ l, 0 ≤ x) → l.any big = false → ∃ L : List G, l = ns L := by
    intro l
    induction l with
    | nil => intro _ _; exact ⟨[], rfl⟩
    | cons x l ih =>
      intro h0 h3
      rw [List.any_cons, Bool.or_eq_false_iff] at h3
      obtain ⟨L, rfl⟩ := ih (fun y hy => h0 y (List.mem_cons_of_mem _ hy)) h3.2
      have hx : ¬ (64 ≤ x) := by simpa [big] using h3.1
      have hx0 := h0 x (List.mem_cons_self ..)
      refine ⟨⟨x.toNat, by omega⟩ :: L, ?_⟩
      show x :: ns L = ((x.toNat : Nat) : Int) :: ns L
      rw [Int.toNat_of_nonneg hx0]
  obtain ⟨L, rfl⟩ := key l h0 h3
  rw [ns_length] at h1 h2
  exact ⟨L, rfl, h1, h2⟩
theorem word_yes (L : List G) (h1 : 4 < L.length) (h2 : L.length ≤ 63) : wordW (ns L) = true := by
  unfold wordW
  rw [ns_length, ns_big, decide_eq_true h1, decide_eq_true h2]
  rfl
def Code (l : List G) : Prop := ∀ j, j < 4 → syn l j = 0
instance (l : List G) : Decidable (Code l) := decidable_of_iff (syn l 0 = 0 ∧ syn l 1 = 0 ∧ syn l 2 = 0 ∧ syn l 3 = 0) ⟨fun h j hj => by
  match j, hj with
  | 0, _ => exact h.1
  | 1, _ => exact h.2.1
  | 2, _ => exact h.2.2.1
  | 3, _ => exact h.2.2.2, fun h => ⟨h 0 (by omega), h 1 (by omega), h 2 (by omega), h 3 (by omega)⟩⟩
theorem syn_eq_zero (l : List G) (j : Nat) : (((syn l j).n : Int) == 0) = decide (syn l j = 0) := by
  by_cases h : syn l j = 0
  · rw [h, decide_eq_true rfl]; rfl
  · rw [decide_eq_false h]
    exact beq_eq_false_iff_ne.2 fun h2 => h (G.ext (by show (syn l j).n = 0; omega))
set_option maxRecDepth 100000 in
theorem eql4 (a b c d a2 b2 c2 d2 : Int) (w : World) : (Op.equalIn 10000 179 (.agg #[.int .u8 a, .int .u8 b, .int .u8 c, .int .u8 d]) (.agg #[.int .u8 a2, .int .u8 b2, .int .u8 c2, .int .u8 d2])).run Tryz.prog w = .ok (a == a2 && (b == b2 && (c == c2 && d == d2))) w := by
  obtain ⟨i, hi, hzz⟩ := Option.map_eq_some_iff.1 info_u8
  have hc : Tryz.prog.cellsOf 5 = 1 := by kernel_rfl
  have hu := Tryz.underlying5
  have hk : Tryz.prog.plainKey 5 = true := by kernel_rfl
  have h1 := run_equalIn_array (P := Tryz.prog) (w := w) 9999 #[.int .u8 a, .int .u8 b, .int .u8 c, .int .u8 d] #[.int .u8 a2, .int .u8 b2, .int .u8 c2, .int .u8 d2] Tryz.underlying179 hi
  refine h1.trans ?_
  rw [hc]
  have hl : List.range 4 = [0, 1, 2, 3] := rfl
  rw [hl]
  have step : ∀ (xs ys : Array Value) (off : Nat) (x y : Int) (K : Bool → Sem Bool), xs[off]? = some (.int .u8 x) → ys[off]? = some (.int .u8 y) →
      (part 5 xs off >>= fun a => part 5 ys off >>= fun b => Op.equalIn 9999 5 a b >>= fun r => K r).run Tryz.prog w = (K (x == y)).run Tryz.prog w := by
    intro xs ys off x y K hx hy
    simp only [Sem.run_bind]
    rw [run_part_plain w hk hx]
    simp only [Result.andThen_ok]
    rw [run_part_plain w hk hy]
    simp only [Result.andThen_ok, run_equalIn_int w 9998 _ _ _ _ _ hu]
  simp only [Op.eqItems]
  rw [step _ _ _ a a2 _ rfl rfl]
  cases (a == a2)
  · simp
  simp only [Bool.not_true, Bool.false_eq_true, if_false, Bool.true_and]
  rw [step _ _ _ b b2 _ rfl rfl]
  cases (b == b2)
  · simp
  simp only [Bool.not_true, Bool.false_eq_true, if_false, Bool.true_and]
  rw [step _ _ _ c c2 _ rfl rfl]
  cases (c == c2)
  · simp
  simp only [Bool.not_true, Bool.false_eq_true, if_false, Bool.true_and]
  rw [step _ _ _ d d2 _ rfl rfl]
  cases (d == d2) <;> simp
def synL (l : List G) : List G := [syn l 0, syn l 1, syn l 2, syn l 3]
end Go.Proofs.YtajccgmeminlhaaGreatDoor
