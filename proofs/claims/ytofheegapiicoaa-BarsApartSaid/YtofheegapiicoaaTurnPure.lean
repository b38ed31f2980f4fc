/- Plain words on texts of bars that are turned. -/
import Derived.Test.YtofheegapiicoaaBarsE
import Derived.Test.YtofheegapiicoaaBarsF
import Derived.Test.YtofheegapiicoaaQ1
set_option linter.unusedVariables false
set_option linter.unusedSimpArgs false
namespace Go.Proofs.Ytofheegapiicoaa
open Go.RowKit Go.Shelf Go.Proofs.YtofheegapiicoaaW.PrintWords Go.Proofs.Ytofheegapiicoaa.Q

/-- A letter upside down. -/
def fb (b : UInt8) : UInt8 := lb (fl (st b.toNat))
def isL (b : UInt8) : Bool := decide (0 ≤ st b.toNat)
theorem isL_cases {b : UInt8} (h : isL b = true) : b = 84 ∨ b = 65 ∨ b = 68 ∨ b = 70 ∨ b = 63 := by
  have h2 : 0 ≤ st (b.toNat : Int) := by simpa [isL] using h
  unfold st at h2
  have hb : ∀ n : Nat, (b.toNat : Int) = (n : Int) → n < 256 → b = n.toUInt8 := by
    intro n hn hlt
    apply UInt8.toNat.inj
    rw [UInt8.toNat_ofNat']
    omega
  repeat' split at h2
  · exact .inl (hb 84 (by assumption) (by omega))
  · exact .inr (.inl (hb 65 (by assumption) (by omega)))
  · exact .inr (.inr (.inl (hb 68 (by assumption) (by omega))))
  · exact .inr (.inr (.inr (.inl (hb 70 (by assumption) (by omega)))))
  · exact .inr (.inr (.inr (.inr (hb 63 (by assumption) (by omega)))))
  · omega
theorem fb_fb {b : UInt8} (h : isL b = true) : fb (fb b) = b := by
  rcases isL_cases h with rfl | rfl | rfl | rfl | rfl <;> decide
theorem fb_isL {b : UInt8} (h : isL b = true) : isL (fb b) = true := by
  rcases isL_cases h with rfl | rfl | rfl | rfl | rfl <;> decide
theorem lettersAll_eq (s : ByteArray) : lettersAll s = s.data.toList.all isL := rfl
theorem lettersAll_mk (l : List UInt8) : lettersAll ⟨l.toArray⟩ = l.all isL := rfl

theorem came_eq (s : ByteArray) : ∀ d j, came s j d = ((List.range d).map fun i => flAt s (j + 1 + i)).reverse := by
  intro d
  induction d with
  | zero => intro j; rfl
  | succ d ih =>
    intro j
    rw [came, ih, List.range_succ_eq_map, List.map_cons, List.reverse_cons, List.map_map]
    congr 2
    apply List.map_congr_left
    intro i _
    simp only [Function.comp]
    congr 1
    omega
theorem range_map_getD {α : Type} (l : List UInt8) (f : UInt8 → α) : (List.range l.length).map (fun i => f (l.getD i 0)) = l.map f := by
  apply List.ext_getElem
  · simp
  · intro i h1 h2
    have : i < l.length := by simpa using h1
    simp [List.getD_eq_getElem?_getD, List.getElem?_eq_getElem this]
theorem turnText_eq (s : ByteArray) (h : lettersAll s = true) : turnText s = (s.data.toList.map fb).reverse := by
  have hsz : s.size = s.data.toList.length := by simp
  unfold turnText
  rw [came_eq, List.map_reverse, List.map_map]
  congr 1
  rw [← range_map_getD s.data.toList fb, hsz]
  apply List.map_congr_left
  intro i hi
  have hi2 : i < s.size := by rw [hsz]; simpa using hi
  have hl := lettersAll_at h i hi2
  have hg := gl_at s i hi2
  have h4 := (st_range ((s[i]'hi2).toNat : Int)).2
  simp only [Function.comp, flAt]
  have e : 0 + 1 + i - 1 = i := by omega
  rw [e, dif_pos]
  · rfl
  · rw [hg]
    unfold fl
    split
    · omega
    · split <;> omega
theorem mk_data (s : ByteArray) : (⟨s.data.toList.toArray⟩ : ByteArray) = s := rfl
theorem turnW_eq (s : ByteArray) (h : lettersAll s = true) : turnW s = ⟨((s.data.toList.map fb).reverse).toArray⟩ := by
  unfold turnW
  rw [turnText_eq s h]
theorem turn_letters (s : ByteArray) (h : lettersAll s = true) : lettersAll (turnW s) = true := by
  rw [turnW_eq s h, lettersAll_mk, List.all_eq_true]
  intro b hb
  rw [List.mem_reverse, List.mem_map] at hb
  obtain ⟨c, hc, rfl⟩ := hb
  rw [lettersAll_eq, List.all_eq_true] at h
  exact fb_isL (h c hc)
theorem turn_size (s : ByteArray) (h : lettersAll s = true) : (turnW s).size = s.size := by
  rw [turnW_eq s h]
  show ((s.data.toList.map fb).reverse).toArray.size = s.data.size
  simp
theorem turn_turn (s : ByteArray) (h : lettersAll s = true) : turnW (turnW s) = s := by
  rw [turnW_eq _ (turn_letters s h), turnW_eq s h]
  have : (((s.data.toList.map fb).reverse).map fb).reverse = s.data.toList := by
    rw [List.map_reverse, List.reverse_reverse, List.map_map]
    conv => rhs; rw [← List.map_id s.data.toList]
    apply List.map_congr_left
    intro b hb
    rw [lettersAll_eq, List.all_eq_true] at h
    exact fb_fb (h b hb)
  simp only [List.map_reverse, List.reverse_reverse, List.map_map] at this ⊢
  rw [this]
theorem data_append (a b : ByteArray) : (a ++ b).data.toList = a.data.toList ++ b.data.toList := by simp
theorem letters_append (a b : ByteArray) (ha : lettersAll a = true) (hb : lettersAll b = true) : lettersAll (a ++ b) = true := by
  rw [lettersAll_eq, data_append, List.all_append]
  rw [lettersAll_eq] at ha hb
  rw [ha, hb]
  rfl
theorem turn_append (a b : ByteArray) (ha : lettersAll a = true) (hb : lettersAll b = true) : turnW (a ++ b) = turnW b ++ turnW a := by
  rw [turnW_eq _ (letters_append a b ha hb), turnW_eq a ha, turnW_eq b hb, data_append, List.map_append, List.reverse_append]
  apply ByteArray.ext
  simp
theorem check_ok (s : ByteArray) (more : Int) (hs : (s.size : Int) + more ≤ 200) (h : lettersAll s = true) : checkW s more = 0 := by
  unfold checkW
  rw [if_neg (by omega), if_pos h]
theorem turn_f (s : ByteArray) (hs : s.size ≤ 200) (h : lettersAll s = true) : bars_Turn.f s = some (turnW s, 0) := by
  unfold bars_Turn.f bars_check.f bars_turn.f
  rw [if_pos ⟨by omega, by omega, by omega⟩, check_ok s 0 (by omega) h, if_pos ⟨hs, h⟩]
  rfl
theorem written_letters (l : List Int) (h : ∀ x ∈ l, 0 ≤ x) : lettersAll (writtenW l) = true := by
  unfold writtenW writtenL lets
  rw [lettersAll_mk, List.all_eq_true]
  intro b hb
  rw [List.mem_map] at hb
  obtain ⟨x, hx, rfl⟩ := hb
  have h0 := h x (List.mem_of_mem_take hx)
  obtain ⟨n, hn⟩ := Int.eq_ofNat_of_zero_le (show 0 ≤ x % 5 by omega)
  have : n < 5 := by omega
  rw [hn]
  match n, this with
  | 0, _ => decide
  | 1, _ => decide
  | 2, _ => decide
  | 3, _ => decide
  | 4, _ => decide
theorem written_size (l : List Int) : (writtenW l).size = min 190 l.length := by
  show (writtenL l).toArray.size = _
  simp [writtenL, lets]
end Go.Proofs.Ytofheegapiicoaa
