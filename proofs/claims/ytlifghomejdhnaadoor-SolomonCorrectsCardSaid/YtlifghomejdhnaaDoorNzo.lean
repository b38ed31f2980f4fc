/- A slice of noise that came in, opened: its elements as triples. -/
import Derived.Test.YtlifghomejdhnaaDoorRd
import Derived.Deep.Slices
namespace Go.Proofs.YtlifghomejdhnaaDoor
open Go.RowKit Go.Shelf Go.ChangeShapes Go.WideShapes Go.Deep Go.Proofs.YtlifghomejdhnaaDoorW.PrintWords Go.Proofs.YtlifghomejdhnaaDoorW.PrintLast Go.Proofs.YtlifghomejdhnaaDoorW.PrintMore

theorem open_noise {H : Type} {enc : TypeId × Value → H} {P : Program} {w : World} {base : Nat} {spare : Nat → Bool} {held : Bool} {t e : TypeId} {f0 f1 f2 : Field} {fuel : Nat} {cs : List Value} {x : DataW H × List MemPlace}
    (ht : P.underlying t = some (.slice e)) (he : P.underlying e = some (.struct #[f0, f1, f2])) (ce : P.cellsOf e = 3) (o0 : f0.offset = 0) (o1 : f1.offset = 1) (o2 : f2.offset = 2) (c0 : P.cellsOf f0.type = 1) (c1 : P.cellsOf f1.type = 1) (c2 : P.cellsOf f2.type = 1)
    (k0 : P.underlying f0.type = some (.int .u8)) (k1 : P.underlying f1.type = some (.int .u8)) (k2 : P.underlying f2.type = some .bool) (h : DataW.trod enc P w base spare held fuel t cs = some x) :
    ∃ (A : Option Addr) (len cap : Nat) (z : List (Int × Int × Bool)), cs = [.slice A len cap] ∧ len ≤ cap ∧ kNz.C w A len z ∧ ∀ y ∈ z, okNz y := by
  rcases open_slice ht h with ⟨rfl, _⟩ | ⟨a, len, cap, m, n, D, Pl, rfl, hb, hl, hm, hmm, rfl, hx⟩
  · exact ⟨none, 0, 0, [], rfl, Nat.le_refl _, ⟨rfl, by decide, fun h => absurd h (by decide)⟩, by simp⟩
  have hlm : len ≤ m := by rw [hmm]; split <;> omega
  have each : ∀ i, i < len → ∃ q : Int × Int × Bool, okNz q ∧ w.cell? (a.add (i * 3 + 0)) = some (.int .u8 q.1) ∧ w.cell? (a.add (i * 3 + 1)) = some (.int .u8 q.2.1) ∧ w.cell? (a.add (i * 3 + 2)) = some (.bool q.2.2) := by
    intro i hi
    obtain ⟨cs', h1, h2⟩ := hx i (by omega)
    rw [ce] at h1
    obtain ⟨_, hlen, hcell⟩ := World.cells?_some h1
    obtain ⟨xs, k, hk, hxy, _, hxl, hf⟩ := DataW.trod_struct he h2
    match xs, hxl, cs', hlen with
    | [y0, y1, y2], _, [v0, v1, v2], _ =>
      have g0 := hf 0 f0 rfl
      have g1 := hf 1 f1 rfl
      have g2 := hf 2 f2 rfl
      simp [o0, o1, o2, c0, c1, c2] at g0 g1 g2
      have e0 := hcell 0 (by omega)
      have e1 := hcell 1 (by omega)
      have e2 := hcell 2 (by omega)
      rw [Go.Deep.add_add] at e0 e1 e2
      obtain ⟨n0, hn0, _, hw0⟩ := DataW.trod_int k0 g0
      obtain ⟨n1, hn1, _, hw1⟩ := DataW.trod_int k1 g1
      obtain ⟨b2, hb2, _⟩ := DataW.trod_bool k2 g2
      obtain rfl := (List.cons.inj hn0).1
      obtain rfl := (List.cons.inj hn1).1
      obtain rfl := (List.cons.inj hb2).1
      simp [Lit.wf, IntKind.min, IntKind.max, IntKind.signed, IntKind.bits] at hw0 hw1
      refine ⟨(n0, n1, b2), ?_, e0, e1, e2⟩
      show (0 ≤ n0 ∧ n0 < 256) ∧ (0 ≤ n1 ∧ n1 < 256)
      omega
  obtain ⟨q, hq⟩ := choose_lt each
  have hml : cap ≤ 9223372036854775807 := by have e : maxLen = 9223372036854775807 := rfl; rw [← e]; exact hm
  refine ⟨some a, len, cap, (List.range len).map q, rfl, hl, ⟨by simp, by omega, fun _ => ⟨a, rfl, fun j p hj => ?_⟩⟩, fun y hy => ?_⟩
  · obtain ⟨hjl, hjp⟩ : j < len ∧ q j = p := by
      rw [List.getElem?_map] at hj
      by_cases h : j < len
      · rw [List.getElem?_range h] at hj
        exact ⟨h, Option.some.inj hj⟩
      · rw [List.getElem?_eq_none (by simpa using h)] at hj
        cases hj
    subst hjp
    obtain ⟨-, h0, h1, h2⟩ := hq j hjl
    refine ⟨[.int .u8 (q j).1] ++ ([.int .u8 (q j).2.1] ++ [.bool (q j).2.2]), rfl, ⟨[.int .u8 (q j).1], [.int .u8 (q j).2.1] ++ [.bool (q j).2.2], rfl, (show [Value.int .u8 (q j).1] = [Value.int .u8 (q j).1] from rfl), [.int .u8 (q j).2.1], [.bool (q j).2.2], rfl, (show [Value.int .u8 (q j).2.1] = [Value.int .u8 (q j).2.1] from rfl), (show [Value.bool (q j).2.2] = [Value.bool (q j).2.2] from rfl)⟩, fun i u hu => ?_⟩
    match i, hu with
    | 0, hu => cases hu; exact h0
    | 1, hu => cases hu; exact h1
    | 2, hu => cases hu; exact h2
    | i + 3, hu => simp at hu
  · obtain ⟨i, hi, rfl⟩ := List.mem_map.1 hy
    exact (hq i (List.mem_range.1 hi)).1
end Go.Proofs.YtlifghomejdhnaaDoor
