/- SameBytes and SameInts answer whether two lists are equal. -/
import Derived.Test.YtlifghomejdhnaaDoorQ1
set_option linter.unusedVariables false
set_option linter.unusedSimpArgs false
namespace Go.Proofs.YtlifghomejdhnaaDoor
open Go.RowKit Go.Proofs.YtlifghomejdhnaaDoorW.PrintWords Go.Proofs.YtlifghomejdhnaaDoorW.PrintLast Go.Proofs.YtlifghomejdhnaaDoorW.PrintMore Go.Proofs.YtlifghomejdhnaaDoor.Q

theorem rd_nat (a : List Int) (i : Nat) (h : i < a.length) : rd a (i : Int) = a[i] := by
  unfold rd
  rw [Int.toNat_natCast, List.getD_eq_getElem?_getD, List.getElem?_eq_getElem h]
  rfl
theorem sameB_l0 (a b : List Int) (hl : b.length = a.length) (hn : a.length ≤ 1000) : ∀ (d i k : Nat), a.length ≤ d + i → i ≤ a.length → d < k → letterbagkit_SameBytes.l0 k a b (i : Int) = some (decide (a.drop i = b.drop i)) := by
  intro d
  induction d with
  | zero =>
    intro i k h1 h2 h3
    obtain ⟨k, rfl⟩ : ∃ k', k = k' + 1 := ⟨k - 1, by omega⟩
    rw [letterbagkit_SameBytes.l0, if_neg (by omega), List.drop_of_length_le (by omega), List.drop_of_length_le (by omega)]
    rfl
  | succ d ih =>
    intro i k h1 h2 h3
    obtain ⟨k, rfl⟩ : ∃ k', k = k' + 1 := ⟨k - 1, by omega⟩
    by_cases hi : i < a.length
    · have e1 : wrap64 ((i : Int) + 1) = ((i + 1 : Nat) : Int) := by unfold wrap64; omega
      have := ih (i + 1) k (by omega) (by omega) (by omega)
      rw [← e1] at this
      rw [letterbagkit_SameBytes.l0, if_pos (by omega), if_pos (by omega), if_pos (by omega), this, rd_nat a i hi, rd_nat b i (by omega), List.drop_eq_getElem_cons hi, List.drop_eq_getElem_cons (show i < b.length by omega)]
      by_cases e : a[i] = b[i]
      · rw [if_pos e, decide_eq_decide.2]
        rw [List.cons.injEq]
        exact ⟨fun h => ⟨e, h⟩, fun h => h.2⟩
      · rw [if_neg e, decide_eq_false]
        rw [List.cons.injEq]
        exact fun h => e h.1
    · rw [letterbagkit_SameBytes.l0, if_neg (by omega), List.drop_of_length_le (by omega), List.drop_of_length_le (by omega)]
      rfl
theorem sameB_dec (a b : List Int) (hn : a.length ≤ 1000) : letterbagkit_SameBytes.f 1010 a b = some (decide (a = b)) := by
  unfold letterbagkit_SameBytes.f
  by_cases h : b.length = a.length
  · rw [if_pos (by omega)]
    exact sameB_l0 a b h hn a.length 0 1010 (by omega) (by omega) (by omega)
  · rw [if_neg (by omega), decide_eq_false (fun e => h (by rw [e]))]
theorem sameI_l0 (a b : List Int) (hl : b.length = a.length) (hn : a.length ≤ 1000) : ∀ (d i k : Nat), a.length ≤ d + i → i ≤ a.length → d < k → letterbagkit_SameInts.l0 k a b (i : Int) = some (decide (a.drop i = b.drop i)) := by
  intro d
  induction d with
  | zero =>
    intro i k h1 h2 h3
    obtain ⟨k, rfl⟩ : ∃ k', k = k' + 1 := ⟨k - 1, by omega⟩
    rw [letterbagkit_SameInts.l0, if_neg (by omega), List.drop_of_length_le (by omega), List.drop_of_length_le (by omega)]
    rfl
  | succ d ih =>
    intro i k h1 h2 h3
    obtain ⟨k, rfl⟩ : ∃ k', k = k' + 1 := ⟨k - 1, by omega⟩
    by_cases hi : i < a.length
    · have e1 : wrap64 ((i : Int) + 1) = ((i + 1 : Nat) : Int) := by unfold wrap64; omega
      have := ih (i + 1) k (by omega) (by omega) (by omega)
      rw [← e1] at this
      rw [letterbagkit_SameInts.l0, if_pos (by omega), if_pos (by omega), if_pos (by omega), this, rd_nat a i hi, rd_nat b i (by omega), List.drop_eq_getElem_cons hi, List.drop_eq_getElem_cons (show i < b.length by omega)]
      by_cases e : a[i] = b[i]
      · rw [if_pos e, decide_eq_decide.2]
        rw [List.cons.injEq]
        exact ⟨fun h => ⟨e, h⟩, fun h => h.2⟩
      · rw [if_neg e, decide_eq_false]
        rw [List.cons.injEq]
        exact fun h => e h.1
    · rw [letterbagkit_SameInts.l0, if_neg (by omega), List.drop_of_length_le (by omega), List.drop_of_length_le (by omega)]
      rfl
theorem sameI_dec (a b : List Int) (hn : a.length ≤ 1000) : letterbagkit_SameInts.f 1010 a b = some (decide (a = b)) := by
  unfold letterbagkit_SameInts.f
  by_cases h : b.length = a.length
  · rw [if_pos (by omega)]
    exact sameI_l0 a b h hn a.length 0 1010 (by omega) (by omega) (by omega)
  · rw [if_neg (by omega), decide_eq_false (fun e => h (by rw [e]))]
theorem SameB_any (A0 : Option Addr) (c0 : Nat) (a : List Int) (A1 : Option Addr) (c1 : Nat) (b : List Int) (n0 n1 : Nat) (w : World) (h0 : a.length = n0) (h1 : b.length = n1) (hn : n0 ≤ 1000) (hr0 : Kd.C (Kd.int .u8) w A0 n0 a) (hc0 : n0 ≤ c0) (hr1 : Kd.C (Kd.int .u8) w A1 n1 b) (hc1 : n1 ≤ c1) :
    Calls Tryd.prog 11 #[.slice A0 n0 c0, .slice A1 n1 c1] w fun e w' => e = .returned (.bool (decide (a = b))) ∧ Below w.heap.size w w' := by
  subst h0 h1
  exact (letterbagkit_SameBytes.calls 1010 A0 c0 a A1 c1 b _ w hr0 hc0 hr1 hc1 (sameB_dec a b hn)).mono fun _ _ h => ⟨h.1, h.2.below⟩
theorem SameI_any (A0 : Option Addr) (c0 : Nat) (a : List Int) (A1 : Option Addr) (c1 : Nat) (b : List Int) (n0 n1 : Nat) (w : World) (h0 : a.length = n0) (h1 : b.length = n1) (hn : n0 ≤ 1000) (hr0 : Kd.C (Kd.int .i64) w A0 n0 a) (hc0 : n0 ≤ c0) (hr1 : Kd.C (Kd.int .i64) w A1 n1 b) (hc1 : n1 ≤ c1) :
    Calls Tryd.prog 24 #[.slice A0 n0 c0, .slice A1 n1 c1] w fun e w' => e = .returned (.bool (decide (a = b))) ∧ Below w.heap.size w w' := by
  subst h0 h1
  exact (letterbagkit_SameInts.calls 1010 A0 c0 a A1 c1 b _ w hr0 hc0 hr1 hc1 (sameI_dec a b hn)).mono fun _ _ h => ⟨h.1, h.2.below⟩
end Go.Proofs.YtlifghomejdhnaaDoor
