/- slices.Contains in plain words; solomon.Decode where it refuses: walks. -/
import Derived.Test.YtlifghomejdhnaaDoorDecP
set_option linter.unusedVariables false
set_option linter.unusedSimpArgs false
namespace Go.Proofs.YtlifghomejdhnaaDoor
open Go.RowKit Go.Shelf Go.Proofs.YtlifghomejdhnaaDoorW.PrintWords Go.Proofs.YtlifghomejdhnaaDoorW.PrintLast Go.Proofs.YtlifghomejdhnaaDoor.Q Go.Proofs.YtlifghomejdhnaaDoor.Gf

theorem idx_l0 (l : List Int) (a : Int) (hn : l.length ≤ 1000) : ∀ (d i k : Nat), l.length ≤ d + i → i ≤ l.length → d < k → ∃ r, slices_Index_int_int.l0 k l a (l.length : Int) (i : Int) = some r ∧ (r ≥ 0 ↔ a ∈ l.drop i) := by
  intro d
  induction d with
  | zero =>
    intro i k h1 h2 h3
    obtain ⟨k, rfl⟩ : ∃ k', k = k' + 1 := ⟨k - 1, by omega⟩
    refine ⟨-1, ?_, ?_⟩
    · rw [slices_Index_int_int.l0, if_neg (by omega)]
    · rw [List.drop_eq_nil_of_le (by omega)]
      simp
  | succ d ih =>
    intro i k h1 h2 h3
    obtain ⟨k, rfl⟩ : ∃ k', k = k' + 1 := ⟨k - 1, by omega⟩
    by_cases hi : i < l.length
    · have e0 : rd l (i : Int) = l[i] := by
        unfold rd
        rw [Int.toNat_natCast, List.getD_eq_getElem?_getD, List.getElem?_eq_getElem hi]
        rfl
      have e1 : wrap64 ((i : Int) + 1) = ((i + 1 : Nat) : Int) := by unfold wrap64; omega
      have hd : l.drop i = l[i] :: l.drop (i + 1) := List.drop_eq_getElem_cons hi
      by_cases ha : a = l[i]
      · refine ⟨(i : Int), ?_, ?_⟩
        · rw [slices_Index_int_int.l0, if_pos (by omega)]
          simp [e0, ha]
          try omega
        · exact ⟨fun _ => by rw [hd, ha]; exact List.mem_cons_self .., fun _ => by omega⟩
      · obtain ⟨r, hr, hm⟩ := ih (i + 1) k (by omega) (by omega) (by omega)
        refine ⟨r, ?_, ?_⟩
        · rw [slices_Index_int_int.l0, if_pos (by omega)]
          simp only [e0, ha, e1, if_false]
          rw [if_pos (by omega), if_pos (by omega)]
          exact hr
        · rw [hd, List.mem_cons, hm]
          simp [ha]
    · refine ⟨-1, ?_, ?_⟩
      · rw [slices_Index_int_int.l0, if_neg (by omega)]
      · rw [List.drop_eq_nil_of_le (by omega)]
        simp
theorem contains_f (l : List Int) (a : Int) (hn : l.length ≤ 1000) : slices_Contains_int_int.f 1001 l a = some (decide (a ∈ l)) := by
  obtain ⟨r, hr, hm⟩ := idx_l0 l a hn l.length 0 1001 (by omega) (by omega) (by omega)
  rw [List.drop_zero] at hm
  unfold slices_Contains_int_int.f slices_Index_int_int.f
  rw [show ((0 : Nat) : Int) = 0 from rfl] at hr
  rw [hr, Option.bind_some]
  congr 1
  exact decide_eq_decide.2 hm
section
variable {P : Program}
theorem results_ci {fn : Func} {p p' : Tmp} {ty ty' : TypeId} (h : fn.results = #[.cell p ty, .cell p' ty']) (tmps : Array Value) (w : World) (g g' : Nat) (t : TypeId) (cs : Array Value) (fr : Nat × Nat) (d : TypeDesc) (n : Int)
    (hp : tmps.getD p undef = .pointer (some ⟨g, 0, none⟩)) (hg : w.heap[g]? = some (.cells cs t fr))
    (hu : P.underlying ty = some d) (hd : (match d with | .struct _ | .array _ _ => true | _ => false) = true) (hi : (P.info? ty).map (·.size) = some cs.size)
    (hp' : tmps.getD p' undef = .pointer (some ⟨g', 0, none⟩)) (hg' : w.cell? ⟨g', 0, none⟩ = some (.int .i64 n))
    (hu' : P.underlying ty' = some (.int .i64)) :
    (results fn tmps).run P w = .ok (.tuple #[.agg cs, .int .i64 n]) w := by
  have h1 : tmps[p]?.getD undef = .pointer (some ⟨g, 0, none⟩) := by simpa using hp
  have h2 : tmps[p']?.getD undef = .pointer (some ⟨g', 0, none⟩) := by simpa using hp'
  simp [results, h, h1, h2, asAddr, run_loadVar_row w g t ty cs fr d hg hu hd hi]
  have hv : (loadVar ty' ⟨g', 0, none⟩).run P w = .ok (.int .i64 n) w := by
    simp [loadVar, isAgg, run_underlying hu', hg', go_sem]
  rw [hv]
  rfl
end
end Go.Proofs.YtlifghomejdhnaaDoor
