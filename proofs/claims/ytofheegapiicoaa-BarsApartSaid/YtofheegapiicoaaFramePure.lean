/- Plain words on framed texts. -/
import Derived.Test.YtofheegapiicoaaTurnPure
import Derived.Test.YtofheegapiicoaaBackPure
import Derived.Lib.Strings
set_option linter.unusedVariables false
set_option linter.unusedSimpArgs false
namespace Go.Proofs.Ytofheegapiicoaa
open Go.RowKit Go.Shelf Go.Proofs.YtofheegapiicoaaW.PrintWords Go.Proofs.Ytofheegapiicoaa.Q

def mkB (l : List UInt8) : ByteArray := ⟨l.toArray⟩
theorem mkB_data (l : List UInt8) : (mkB l).data.toList = l := rfl
theorem mkB_size (l : List UInt8) : (mkB l).size = l.length := rfl
theorem mkB_of (s : ByteArray) : mkB s.data.toList = s := rfl
theorem mkB_append (a b : List UInt8) : mkB a ++ mkB b = mkB (a ++ b) := by
  apply ByteArray.ext
  simp [mkB]
theorem wrap_sub (a b : Nat) (h : b ≤ a) (ha : a ≤ 1000) : wrap64 ((a : Int) - (b : Int)) = ((a - b : Nat) : Int) := by
  unfold wrap64
  omega
theorem cutPrefix_f (l p : List UInt8) : strings_CutPrefix.f (mkB l) (mkB p) = some (if p.length ≤ l.length ∧ l.take p.length = p then (mkB (l.drop p.length), true) else (mkB l, false)) := by
  unfold strings_CutPrefix.f stringslite_CutPrefix.f stringslite_HasPrefix.f
  simp only [mkB_size, Lib.extract_toList, Lib.extract_eq, Lib.toList_data, mkB_data, Int.toNat_natCast, List.drop_zero, Nat.sub_zero]
  by_cases h : p.length ≤ l.length
  · rw [if_pos (show (l.length : Int) ≥ p.length by omega), if_pos (show (0 : Int) ≤ p.length by omega), if_pos (show (p.length : Int) ≤ l.length by omega)]
    simp only [Option.bind_some]
    by_cases h2 : l.take p.length = p
    · rw [if_pos (by simpa using h2), if_pos (show (0 : Int) ≤ p.length by omega), if_pos (show (p.length : Int) ≤ l.length by omega), if_pos ⟨h, h2⟩]
      simp only [Option.bind_some]
      rw [List.take_of_length_le (by simp)]
      rfl
    · rw [if_neg (by simpa using h2), if_neg (fun h3 : p.length ≤ l.length ∧ _ => h2 h3.2)]
      rfl
  · rw [if_neg (show ¬ (l.length : Int) ≥ p.length by omega), if_neg (fun h3 : p.length ≤ l.length ∧ _ => h h3.1)]
    rfl
theorem cutSuffix_f (l p : List UInt8) (hl : l.length ≤ 1000) : strings_CutSuffix.f (mkB l) (mkB p) = some (if p.length ≤ l.length ∧ l.drop (l.length - p.length) = p then (mkB (l.take (l.length - p.length)), true) else (mkB l, false)) := by
  unfold strings_CutSuffix.f stringslite_CutSuffix.f stringslite_HasSuffix.f
  simp only [mkB_size, Lib.extract_toList, Lib.extract_eq, Lib.toList_data, mkB_data]
  by_cases h : p.length ≤ l.length
  · rw [wrap_sub _ _ h hl]
    simp only [Int.toNat_natCast, List.drop_zero, Nat.sub_zero]
    rw [if_pos (show (l.length : Int) ≥ p.length by omega), if_pos (show (0 : Int) ≤ ((l.length - p.length : Nat) : Int) by omega), if_pos (show ((l.length - p.length : Nat) : Int) ≤ l.length by omega)]
    simp only [Option.bind_some]
    rw [List.take_of_length_le (show (l.drop (l.length - p.length)).length ≤ l.length - (l.length - p.length) by simp)]
    by_cases h2 : l.drop (l.length - p.length) = p
    · rw [if_pos (by simpa using h2), if_pos (show (0 : Int) ≤ ((l.length - p.length : Nat) : Int) by omega), if_pos (show ((l.length - p.length : Nat) : Int) ≤ l.length by omega), if_pos ⟨h, h2⟩]
      rfl
    · rw [if_neg (by simpa using h2), if_neg (fun h3 : p.length ≤ l.length ∧ _ => h2 h3.2)]
      rfl
  · rw [if_neg (show ¬ (l.length : Int) ≥ p.length by omega), if_neg (fun h3 : p.length ≤ l.length ∧ _ => h h3.1)]
    rfl
/-- A framed text. -/
def Framed (l : List UInt8) : Prop := ∃ m, l = 65 :: 84 :: (m ++ [70, 68])
theorem inner_yes (m : List UInt8) (hl : m.length ≤ 500) : bars_inner.f (mkB (65 :: 84 :: (m ++ [70, 68]))) = some (mkB m, true) := by
  unfold bars_inner.f
  rw [show (⟨#[65, 84]⟩ : ByteArray) = mkB [65, 84] from rfl, show (⟨#[70, 68]⟩ : ByteArray) = mkB [70, 68] from rfl, cutPrefix_f, if_pos ⟨by simp, by simp⟩]
  simp only [Option.bind_some, List.length_cons, List.length_nil, List.drop_succ_cons, List.drop_zero]
  rw [cutSuffix_f _ _ (by simp; omega), if_pos ⟨by simp, by simp⟩]
  simp
theorem inner_no (l : List UInt8) (hl : l.length ≤ 500) (h : ¬ Framed l) : ∃ t, bars_inner.f (mkB l) = some (t, false) := by
  unfold bars_inner.f
  rw [show (⟨#[65, 84]⟩ : ByteArray) = mkB [65, 84] from rfl, show (⟨#[70, 68]⟩ : ByteArray) = mkB [70, 68] from rfl, cutPrefix_f]
  by_cases h1 : ([65, 84] : List UInt8).length ≤ l.length ∧ l.take ([65, 84] : List UInt8).length = [65, 84]
  · simp only [if_pos h1, Option.bind_some]
    rw [cutSuffix_f _ _ (by simp; omega), if_neg]
    · simp
    · rintro ⟨h2, h3⟩
      apply h
      refine ⟨(l.drop 2).take ((l.drop 2).length - 2), ?_⟩
      have e1 : l = [65, 84] ++ l.drop 2 := by
        have := List.take_append_drop 2 l
        simp only [List.length_cons, List.length_nil] at h1
        rw [h1.2] at this
        exact this.symm
      have e2 : l.drop 2 = (l.drop 2).take ((l.drop 2).length - 2) ++ [70, 68] := by
        have := List.take_append_drop ((l.drop 2).length - 2) (l.drop 2)
        simp only [List.length_cons, List.length_nil] at h3
        rw [h3] at this
        exact this.symm
      rw [e1]
      simp only [List.cons_append, List.nil_append, List.drop_succ_cons, List.drop_zero]
      rw [← e2]
  · simp only [if_neg h1, Option.bind_some]
    rw [cutSuffix_f _ _ (by omega)]
    split <;> simp
theorem turn_mk (l : List UInt8) (h : l.all isL = true) : turnW (mkB l) = mkB ((l.map fb).reverse) := turnW_eq (mkB l) h
theorem turnf_mk (l : List UInt8) (hl : l.length ≤ 200) (h : l.all isL = true) : bars_turn.f (mkB l) = some (mkB ((l.map fb).reverse)) := by
  unfold bars_turn.f
  rw [if_pos ⟨hl, h⟩, turn_mk l h]
theorem checkf_mk (l : List UInt8) (more : Int) (hm : 0 ≤ more) (hl : (l.length : Int) + more ≤ 200) (h : l.all isL = true) : bars_check.f (mkB l) more = some 0 := by
  unfold bars_check.f
  rw [if_pos ⟨by rw [mkB_size]; omega, hm, by omega⟩, check_ok (mkB l) more (by rw [mkB_size]; exact hl) h]
theorem unframe_up (m : List UInt8) (hl : m.length ≤ 196) (h : m.all isL = true) : bars_Unframe.f (mkB (65 :: 84 :: (m ++ [70, 68]))) = some (mkB m, false, 0) := by
  unfold bars_Unframe.f
  rw [checkf_mk _ 0 (by omega) (by simp; omega) (by simp [h]; decide)]
  simp only [Option.bind_some, if_true]
  rw [inner_yes m (by omega)]
  rfl
theorem unframe_over (l m : List UInt8) (hl : l.length ≤ 200) (h : l.all isL = true) (h1 : ¬ Framed l) (h2 : (l.map fb).reverse = 65 :: 84 :: (m ++ [70, 68])) : bars_Unframe.f (mkB l) = some (mkB m, true, 0) := by
  unfold bars_Unframe.f
  obtain ⟨t, ht⟩ := inner_no l (by omega) h1
  have hm : m.length ≤ 200 := by
    have := congrArg List.length h2
    simp at this
    omega
  rw [checkf_mk l 0 (by omega) (by omega) h]
  simp only [Option.bind_some, if_true]
  rw [ht]
  simp only [Option.bind_some]
  rw [if_neg (by simp), turnf_mk l hl h, h2]
  simp only [Option.bind_some]
  rw [inner_yes m (by omega)]
  rfl
theorem unframe_none (l : List UInt8) (hl : l.length ≤ 200) (h : l.all isL = true) (h1 : ¬ Framed l) (h2 : ¬ Framed ((l.map fb).reverse)) : bars_Unframe.f (mkB l) = some (⟨#[]⟩, false, 200) := by
  unfold bars_Unframe.f
  obtain ⟨t, ht⟩ := inner_no l (by omega) h1
  obtain ⟨t2, ht2⟩ := inner_no ((l.map fb).reverse) (by simp; omega) h2
  rw [checkf_mk l 0 (by omega) (by omega) h]
  simp only [Option.bind_some, if_true]
  rw [ht]
  simp only [Option.bind_some]
  rw [if_neg (by simp), turnf_mk l hl h]
  simp only [Option.bind_some]
  rw [ht2]
  rfl
theorem framed_at {l : List UInt8} (h : Framed l) : 4 ≤ l.length ∧ l.getD 0 0 = 65 ∧ l.getD 1 0 = 84 ∧ l.getD (l.length - 2) 0 = 70 ∧ l.getD (l.length - 1) 0 = 68 := by
  obtain ⟨m, rfl⟩ := h
  have e1 : (65 :: 84 :: (m ++ [70, 68]) : List UInt8).length - 2 = m.length + 2 := by simp
  have e2 : (65 :: 84 :: (m ++ [70, 68]) : List UInt8).length - 1 = m.length + 3 := by simp
  refine ⟨by simp, rfl, rfl, ?_, ?_⟩
  · rw [e1]; simp [List.getD_eq_getElem?_getD]
  · rw [e2]; simp [List.getD_eq_getElem?_getD]
theorem fb_inv {b c : UInt8} (hb : isL b = true) (h : fb b = c) : b = fb c := by
  rw [← h, fb_fb hb]
theorem getD_isL {l : List UInt8} (h : l.all isL = true) (i : Nat) (hi : i < l.length) : isL (l.getD i 0) = true := by
  rw [List.all_eq_true] at h
  apply h
  rw [List.getD_eq_getElem?_getD, List.getElem?_eq_getElem hi]
  exact List.getElem_mem hi
theorem rev_at (l : List UInt8) (i : Nat) (hi : i < l.length) : ((l.map fb).reverse).getD i 0 = fb (l.getD (l.length - 1 - i) 0) := by
  have h1 : i < ((l.map fb).reverse).length := by simpa using hi
  rw [List.getD_eq_getElem?_getD, List.getElem?_eq_getElem h1, List.getD_eq_getElem?_getD, List.getElem?_eq_getElem (show l.length - 1 - i < l.length by omega)]
  simp [List.getElem_reverse]
theorem framedR_at {l : List UInt8} (hL : l.all isL = true) (h : Framed ((l.map fb).reverse)) : 4 ≤ l.length ∧ l.getD 0 0 = 65 ∧ l.getD 1 0 = 70 ∧ l.getD (l.length - 2) 0 = 84 ∧ l.getD (l.length - 1) 0 = 68 := by
  obtain ⟨h0, h1, h2, h3, h4⟩ := framed_at h
  have hn : ((l.map fb).reverse).length = l.length := by simp
  rw [hn] at h0 h3 h4
  rw [rev_at l _ (by omega)] at h1 h2 h3 h4
  have g1 := fb_inv (getD_isL hL _ (by omega)) h1
  have g2 := fb_inv (getD_isL hL _ (by omega)) h2
  have g3 := fb_inv (getD_isL hL _ (by omega)) h3
  have g4 := fb_inv (getD_isL hL _ (by omega)) h4
  rw [show l.length - 1 - (l.length - 2) = 1 by omega] at g3
  rw [show l.length - 1 - (l.length - 1) = 0 by omega] at g4
  rw [show l.length - 1 - 1 = l.length - 2 by omega] at g2
  rw [show l.length - 1 - 0 = l.length - 1 by omega] at g1
  exact ⟨h0, g4, g3, g2, g1⟩
theorem frame_mk (m : List UInt8) (hl : m.length ≤ 196) (h : m.all isL = true) : bars_Frame.f (mkB m) = some (mkB (65 :: 84 :: (m ++ [70, 68])), 0) := by
  unfold bars_Frame.f frameW
  rw [if_pos (by rw [mkB_size]; omega), if_pos (check_ok (mkB m) 4 (by rw [mkB_size]; omega) (show lettersAll (mkB m) = true from h))]
  congr 2
theorem framed_letters (m : List UInt8) (h : m.all isL = true) : (65 :: 84 :: (m ++ [70, 68]) : List UInt8).all isL = true := by
  simp [h]; decide
theorem turned_not (m : List UInt8) : ¬ Framed (((65 :: 84 :: (m ++ [70, 68]) : List UInt8).map fb).reverse) := by
  intro h
  obtain ⟨_, _, h1, _⟩ := framed_at h
  rw [rev_at _ _ (by simp)] at h1
  have e1 : (65 :: 84 :: (m ++ [70, 68]) : List UInt8).length - 1 - 1 = m.length + 2 := by simp
  rw [e1] at h1
  have : (65 :: 84 :: (m ++ [70, 68]) : List UInt8).getD (m.length + 2) 0 = 70 := by simp [List.getD_eq_getElem?_getD]
  rw [this] at h1
  exact absurd h1 (by decide)
theorem fb_back (l : List UInt8) (h : l.all isL = true) : ((((l.map fb).reverse).map fb).reverse) = l := by
  rw [List.map_reverse, List.reverse_reverse, List.map_map]
  conv => rhs; rw [← List.map_id l]
  apply List.map_congr_left
  intro b hb
  rw [List.all_eq_true] at h
  exact fb_fb (h b hb)
theorem fb_all (l : List UInt8) (h : l.all isL = true) : ((l.map fb).reverse).all isL = true := by
  rw [List.all_eq_true] at h ⊢
  intro b hb
  rw [List.mem_reverse, List.mem_map] at hb
  obtain ⟨c, hc, rfl⟩ := hb
  exact fb_isL (h c hc)
theorem strOf_set (F : List UInt8) (p : Nat) (c : UInt8) : strOfNums ((bytesOf (mkB F)).set p (c.toNat : Int)) = mkB (F.set p c) := by
  apply ByteArray.ext
  have h := strOfNums_data ((bytesOf (mkB F)).set p (c.toNat : Int))
  apply Array.toList_inj.1
  rw [h]
  show _ = F.set p c
  unfold bytesOf
  rw [mkB_data, List.map_set, List.map_map]
  have : ∀ b : UInt8, UInt8.ofNat ((b.toNat : Int).toNat) = b := fun b => by simp
  rw [this]
  congr 1
  conv => rhs; rw [← List.map_id F]
  apply List.map_congr_left
  intro b _
  exact this b
theorem all_set (F : List UInt8) (p : Nat) (c : UInt8) (h : F.all isL = true) (hc : isL c = true) : (F.set p c).all isL = true := by
  rw [List.all_eq_true] at h ⊢
  intro b hb
  rcases List.mem_or_eq_of_mem_set hb with h2 | h2
  · exact h b h2
  · rw [h2]; exact hc
theorem bent_none (m : List UInt8) (hl : m.length ≤ 190) (h : m.all isL = true) (p : Nat) (c : UInt8) (hc : isL c = true) (hp : p = 0 ∨ p = 1 ∨ p = m.length + 2 ∨ p = m.length + 3) (hne : (65 :: 84 :: (m ++ [70, 68]) : List UInt8).getD p 0 ≠ c) :
    bars_Unframe.f (strOfNums ((bytesOf (mkB (65 :: 84 :: (m ++ [70, 68])))).set p (c.toNat : Int))) = some (⟨#[]⟩, false, 200) := by
  rw [strOf_set]
  have hF := framed_letters m h
  obtain ⟨_, f0, f1, f2, f3⟩ := framed_at (show Framed (65 :: 84 :: (m ++ [70, 68])) from ⟨m, rfl⟩)
  have hn : (65 :: 84 :: (m ++ [70, 68]) : List UInt8).length = m.length + 4 := by simp
  rw [hn, show m.length + 4 - 2 = m.length + 2 by omega] at f2
  rw [hn, show m.length + 4 - 1 = m.length + 3 by omega] at f3
  generalize (65 :: 84 :: (m ++ [70, 68]) : List UInt8) = F at *
  have hs : (F.set p c).length = m.length + 4 := by rw [List.length_set, hn]
  have hA := all_set F p c hF hc
  apply unframe_none _ (by omega) hA
  · intro hfr
    obtain ⟨_, g0, g1, g2, g3⟩ := framed_at hfr
    rw [hs, show m.length + 4 - 2 = m.length + 2 by omega, getD_set] at g2
    rw [hs, show m.length + 4 - 1 = m.length + 3 by omega, getD_set] at g3
    rw [getD_set] at g0 g1
    rcases hp with rfl | rfl | rfl | rfl
    · rw [if_pos ⟨rfl, by omega⟩] at g0; exact hne (f0.trans g0.symm)
    · rw [if_pos ⟨rfl, by omega⟩] at g1; exact hne (f1.trans g1.symm)
    · rw [if_pos ⟨rfl, by omega⟩] at g2; exact hne (f2.trans g2.symm)
    · rw [if_pos ⟨rfl, by omega⟩] at g3; exact hne (f3.trans g3.symm)
  · intro hfr
    obtain ⟨_, g0, g1, g2, g3⟩ := framedR_at hA hfr
    rw [hs, show m.length + 4 - 2 = m.length + 2 by omega, getD_set] at g2
    rw [getD_set] at g1
    by_cases e1 : p = 1
    · rw [if_neg (by omega), f2] at g2; exact absurd g2 (by decide)
    · rw [if_neg (by omega), f1] at g1; exact absurd g1 (by decide)
theorem lb_letter (x : Int) (h0 : 0 ≤ x) (h5 : x < 5) : isL (lb x) = true := by
  obtain ⟨n, rfl⟩ := Int.eq_ofNat_of_zero_le h0
  have : n < 5 := by omega
  match n, this with
  | 0, _ => decide
  | 1, _ => decide
  | 2, _ => decide
  | 3, _ => decide
  | 4, _ => decide
theorem bytes_at (F : List UInt8) (p : Nat) (hp : p < F.length) : (bytesOf (mkB F)).getD p 0 = ((F.getD p 0).toNat : Int) := by
  unfold bytesOf
  rw [mkB_data, List.getD_eq_getElem?_getD, List.getD_eq_getElem?_getD, List.getElem?_map, List.getElem?_eq_getElem hp]
  rfl
end Go.Proofs.Ytofheegapiicoaa
