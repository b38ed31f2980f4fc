/- solomon.Decode where it refuses: walks. -/
import Derived.Test.YtlifghomejdhnaaDoorDecA
import Derived.WalkMore
set_option linter.unusedVariables false
set_option linter.unusedSimpArgs false
namespace Go.Proofs.YtlifghomejdhnaaDoor
open Go.RowKit Go.Shelf Go.Proofs.YtlifghomejdhnaaDoorW.PrintWords Go.Proofs.YtlifghomejdhnaaDoorW.PrintLast Go.Proofs.YtlifghomejdhnaaDoor.Q Go.Proofs.YtlifghomejdhnaaDoor.Gf

/-- The world behind Decode's four blocks. -/
structure DecW (w W : World) (v0 v1 : Value) : Prop where
  below : Below w.heap.size w W
  size : w.heap.size + 4 ≤ W.heap.size
  b0 : Boxed W w.heap.size 22 v0
  b1 : Boxed W (w.heap.size + 1) 26 v1
  b2 : W.heap[w.heap.size + 1 + 1]? = some (.cells #[.slice none 0 0, .slice none 0 0] 39 (0, 0))
  b3 : Boxed W (w.heap.size + 1 + 1 + 1) 33 (.int .i64 0)
theorem DecW.step {w W W' : World} {v0 v1 : Value} (h : DecW w W v0 v1) (hb : Below W.heap.size W W') : DecW w W' v0 v1 := by
  have hs := h.size
  refine ⟨h.below.trans (hb.mono h.below.size), Nat.le_trans h.size hb.size, ?_, ?_, ?_, ?_⟩
  · exact (hb.block _ (by omega)).trans h.b0
  · exact (hb.block _ (by omega)).trans h.b1
  · exact (hb.block _ (by omega)).trans h.b2
  · exact (hb.block _ (by omega)).trans h.b3
theorem decW (w : World) (v0 v1 : Value) : DecW w ((((w.alloc (.cells #[v0] 22)).alloc (.cells #[v1] 26)).alloc (.cells #[.slice none 0 0, .slice none 0 0] 39)).alloc (.cells #[.int .i64 0] 33)) v0 v1 := by
  have s1 : (w.alloc (.cells #[v0] 22)).heap.size = w.heap.size + 1 := by simp
  have s2 : ((w.alloc (.cells #[v0] 22)).alloc (.cells #[v1] 26)).heap.size = w.heap.size + 2 := by simp
  have s3 : (((w.alloc (.cells #[v0] 22)).alloc (.cells #[v1] 26)).alloc (.cells #[.slice none 0 0, .slice none 0 0] 39)).heap.size = w.heap.size + 3 := by simp
  refine ⟨((((Below.refl _ w).alloc (Nat.le_refl _) _).alloc (by simp) _).alloc (by simp; omega) _).alloc (by simp; omega) _, by simp, ?_, ?_, ?_, ?_⟩
  · exact boxed_alloc (boxed_alloc (boxed_alloc (Boxed.new w 22 v0) _) _) _
  · have := Boxed.new (w.alloc (.cells #[v0] 22)) 26 v1
    rw [s1] at this
    exact boxed_alloc (boxed_alloc this _) _
  · have := heap_alloc_new ((w.alloc (.cells #[v0] 22)).alloc (.cells #[v1] 26)) (.cells #[.slice none 0 0, .slice none 0 0] 39)
    rw [s2] at this
    exact blk_alloc this _
  · have := Boxed.new (((w.alloc (.cells #[v0] 22)).alloc (.cells #[v1] 26)).alloc (.cells #[.slice none 0 0, .slice none 0 0] 39)) 33 (.int .i64 0)
    rw [s3] at this
    exact this
/-- What is stored behind the last test. -/
theorem dec_stored {W : World} {g h : Nat} (hne : h ≠ g) {cs : Array Value} {T T' : TypeId} (hg : W.heap[g]? = some (.cells cs T (0, 0))) (hh : Boxed W h T' (.int .i64 0)) (hcs : cs.size = 2) (a b : Value) (n : Int) :
    (((W.setCell ⟨g, 0, none⟩ a).setCell ⟨g, 1, none⟩ b).setCell ⟨h, 0, none⟩ (.int .i64 n)).heap[g]? = some (.cells #[a, b] T (0, 0)) ∧ (((W.setCell ⟨g, 0, none⟩ a).setCell ⟨g, 1, none⟩ b).setCell ⟨h, 0, none⟩ (.int .i64 n)).cell? ⟨h, 0, none⟩ = some (.int .i64 n) := by
  obtain ⟨x, y, rfl⟩ : ∃ x y, cs = #[x, y] := ⟨cs[0], cs[1], by
    apply Array.ext
    · simp [hcs]
    · intro i h1 h2
      have : i = 0 ∨ i = 1 := by simp at h2; omega
      rcases this with rfl | rfl <;> simp⟩
  have h1 := heap_setCell_same _ _ 1 _ _ b (heap_setCell_same _ _ 0 _ _ a hg)
  constructor
  · rw [heap_setCell_other _ _ _ _ (fun e => hne e.symm), h1]
    simp
  · have hh2 : Boxed ((W.setCell ⟨g, 0, none⟩ a).setCell ⟨g, 1, none⟩ b) h T' (.int .i64 0) := by
      unfold Boxed at hh ⊢
      rw [heap_setCell_other _ _ _ _ hne, heap_setCell_other _ _ _ _ hne]
      exact hh
    exact (boxed_put hh2 (.int .i64 n)).cell
set_option maxHeartbeats 4000000 in
set_option maxRecDepth 100000 in
theorem Dec_noword (A : Option Addr) (c : Nat) (l : List Int) (A1 : Option Addr) (n1 c1 : Nat) (w : World) (hr : Kd.C (Kd.int .u8) w A l.length l) (hc : l.length ≤ c) (hn : l.length ≤ 1000000) (hb : wordW l = false) :
    Calls Tryd.prog 23 #[.slice A l.length c, .slice A1 n1 c1] w fun e w' => e = .returned (.tuple #[.agg #[.slice none 0 0, .slice none 0 0], .int .i64 2]) ∧ Below w.heap.size w w' := by
  obtain ⟨W, hW⟩ : ∃ W, (((w.alloc (.cells #[.slice A l.length c] 22)).alloc (.cells #[.slice A1 n1 c1] 26)).alloc (.cells #[.slice none 0 0, .slice none 0 0] 39)).alloc (.cells #[.int .i64 0] 33) = W := ⟨_, rfl⟩
  have hD := decW w (.slice A l.length c) (.slice A1 n1 c1)
  rw [hW] at hD
  have HD := Aside0.mk hD
  have HW := Aside0.mk (word_any A c l W (Kd.C_below hr hD.below) hc hn)
  rw [hb] at HW
  have hc0 := hD.b0.cell
  have hk4 : W.frozen? ⟨w.heap.size + 1 + 1, 0, none⟩ = false := by unfold World.frozen?; rw [hD.b2]; simp
  have hk5 : W.frozen? ⟨w.heap.size + 1 + 1, 1, none⟩ = false := by unfold World.frozen?; rw [hD.b2]; simp
  have hk6 := hD.b3.frozen
  have hcc4 : W.cell? ⟨w.heap.size + 1 + 1, 0, none⟩ = some (.slice none 0 0) := by unfold World.cell?; rw [hD.b2]; simp
  have hcc5 : W.cell? ⟨w.heap.size + 1 + 1, 1, none⟩ = some (.slice none 0 0) := by unfold World.cell?; rw [hD.b2]; simp
  have hcc6 := hD.b3.cell
  clear hr hD
  go_enter Tryd.func23, Tryd.ntmps23
  go_wp2_with (first | rw [hW])
  go_step3
  go_wp2_with fail
  refine HW.out.mono ?_
  rintro e w1 ⟨rfl, rfl⟩
  go_wp2_with fail
  have hf := dec_stored (g := w.heap.size + 1 + 1) (h := w.heap.size + 1 + 1 + 1) (by omega) HD.out.b2 HD.out.b3 rfl (.slice none 0 0) (.slice none 0 0) 2
  have hbe := ((HD.out.below.setCell (p := ⟨w.heap.size + 1 + 1, 0, none⟩) (by simp; omega) (.slice none 0 0)).setCell (p := ⟨w.heap.size + 1 + 1, 1, none⟩) (by simp; omega) (.slice none 0 0)).setCell (p := ⟨w.heap.size + 1 + 1 + 1, 0, none⟩) (by simp; omega) (.int .i64 2)
  rw [Exit.noGoto_ret]
  exact bodyPost_ret (v := .tuple #[.agg #[.slice none 0 0, .slice none 0 0], .int .i64 2]) (results_ci (by rfl) _ _ (w.heap.size + 1 + 1) (w.heap.size + 1 + 1 + 1) _ _ _ _ 2 rfl hf.1 Tryd.underlying39 rfl (by kernel_rfl) rfl hf.2 Tryd.underlying33) rfl ⟨rfl, hbe⟩
theorem DecW.cells {w W : World} {v0 v1 : Value} (h : DecW w W v0 v1) : W.frozen? ⟨w.heap.size + 1 + 1, 0, none⟩ = false ∧ W.frozen? ⟨w.heap.size + 1 + 1, 1, none⟩ = false ∧ W.cell? ⟨w.heap.size + 1 + 1, 0, none⟩ = some (.slice none 0 0) ∧ W.cell? ⟨w.heap.size + 1 + 1, 1, none⟩ = some (.slice none 0 0) := by
  refine ⟨?_, ?_, ?_, ?_⟩
  · unfold World.frozen?; rw [h.b2]; simp
  · unfold World.frozen?; rw [h.b2]; simp
  · unfold World.cell?; rw [h.b2]; simp
  · unfold World.cell?; rw [h.b2]; simp
theorem dec_out {w W : World} {v0 v1 : Value} (h : DecW w W v0 v1) (n : Int) {Q : Ending → World → Prop} (tmps : Array Value)
    (h4 : tmps.getD 4 undef = .pointer (some ⟨w.heap.size + 1 + 1, 0, none⟩)) (h5 : tmps.getD 5 undef = .pointer (some ⟨w.heap.size + 1 + 1 + 1, 0, none⟩))
    (hQ : ∀ W', Below w.heap.size w W' → Q (.returned (.tuple #[.agg #[.slice none 0 0, .slice none 0 0], .int .i64 n])) W') :
    bodyPost Tryd.prog Tryd.f23 Q .ret { tmps := tmps, defers := [] } (((W.setCell ⟨w.heap.size + 1 + 1, 0, none⟩ (.slice none 0 0)).setCell ⟨w.heap.size + 1 + 1, 1, none⟩ (.slice none 0 0)).setCell ⟨w.heap.size + 1 + 1 + 1, 0, none⟩ (.int .i64 n)) := by
  have hf := dec_stored (g := w.heap.size + 1 + 1) (h := w.heap.size + 1 + 1 + 1) (by omega) h.b2 h.b3 rfl (.slice none 0 0) (.slice none 0 0) n
  have hbe := ((h.below.setCell (p := ⟨w.heap.size + 1 + 1, 0, none⟩) (by simp; omega) (.slice none 0 0)).setCell (p := ⟨w.heap.size + 1 + 1, 1, none⟩) (by simp; omega) (.slice none 0 0)).setCell (p := ⟨w.heap.size + 1 + 1 + 1, 0, none⟩) (by simp; omega) (.int .i64 n)
  exact bodyPost_ret (v := .tuple #[.agg #[.slice none 0 0, .slice none 0 0], .int .i64 n]) (results_ci (by rfl) _ _ (w.heap.size + 1 + 1) (w.heap.size + 1 + 1 + 1) _ _ _ _ n h4 hf.1 Tryd.underlying39 rfl (by kernel_rfl) h5 hf.2 Tryd.underlying33) rfl (hQ _ hbe)
/-- One place of a list of places. -/
def okAt (N : Nat) (es : List Int) (i : Nat) : Prop := 0 ≤ es.getD i 0 ∧ es.getD i 0 < N ∧ es.getD i 0 ∉ es.take i
set_option maxHeartbeats 8000000 in
set_option maxRecDepth 100000 in
theorem Dec_places (A : Option Addr) (c : Nat) (l : List G) (A1 : Option Addr) (es : List Int) (c1 : Nat) (w : World) (hr : Kd.C (Kd.int .u8) w A l.length (ns l)) (hc : l.length ≤ c) (h4 : 4 < l.length) (hn : l.length ≤ 63) (hr1 : Kd.C (Kd.int .i64) w A1 es.length es) (hc1 : es.length ≤ c1) (hn1 : es.length ≤ 1000) (hbad : (∀ i, i < es.length → okAt l.length es i) → 4 < es.length) :
    Calls Tryd.prog 23 #[.slice A l.length c, .slice A1 es.length c1] w fun e w' => ∃ n : Int, e = .returned (.tuple #[.agg #[.slice none 0 0, .slice none 0 0], .int .i64 n]) ∧ ((n = 2 ∧ ¬ ∀ i, i < es.length → okAt l.length es i) ∨ (n = 190 ∧ ∀ i, i < es.length → okAt l.length es i)) ∧ Below w.heap.size w w' := by
  obtain ⟨W, hW⟩ : ∃ W, (((w.alloc (.cells #[.slice A l.length c] 22)).alloc (.cells #[.slice A1 es.length c1] 26)).alloc (.cells #[.slice none 0 0, .slice none 0 0] 39)).alloc (.cells #[.int .i64 0] 33) = W := ⟨_, rfl⟩
  have hD := decW w (.slice A l.length c) (.slice A1 es.length c1)
  rw [hW] at hD
  have HD := Aside0.mk hD
  have hw := word_any A c (ns l) W (by rw [ns_length]; exact Kd.C_below hr hD.below) (by rw [ns_length]; exact hc) (by rw [ns_length]; omega)
  rw [word_yes l h4 hn, ns_length] at hw
  have HW := Aside0.mk hw
  have HR1 := Aside0.mk (Kd.C_below hr1 hD.below)
  have HBAD := Aside0.mk hbad
  have hc0 := hD.b0.cell
  have hc1' := hD.b1.cell
  clear hr hD hw hr1 hbad
  go_enter Tryd.func23, Tryd.ntmps23
  go_wp2_with (first | rw [hW])
  go_step3
  go_wp2_with fail
  refine HW.out.mono ?_
  rintro e w1 ⟨rfl, rfl⟩
  go_wp2_with fail
  go_loopw [26] (fun i wr => ∃ k : Nat, k ≤ es.length ∧ i = .int .i64 k ∧ (∀ j, j < k → okAt l.length es j) ∧ Below w1.heap.size w1 wr) (fun i _ => es.length - (intOf i).toNat)
  case atStart => exact ⟨0, Nat.zero_le _, rfl, fun j hj => by omega, Below.refl _ _⟩
  case round =>
    obtain ⟨k, hk, rfl, hok, hB⟩ := hrel
    have HOK := Aside0.mk hok
    have HB := Aside0.mk hB
    have hDr := HD.out.step hB
    have HDr := Aside0.mk hDr
    have hc0r := hDr.b0.cell
    have hc1r := hDr.b1.cell
    obtain ⟨hf0, hf1, hcc0, hcc1⟩ := hDr.cells
    have hf2 := hDr.b3.frozen
    have hcc2 := hDr.b3.cell
    have HRr := Aside0.mk (Kd.C_below HR1.out hB)
    clear hok hB hDr
    by_cases hpk : k < es.length
    · obtain ⟨ad, hA1, hx⟩ := Kd.at_int HRr.out k (by omega) (by omega)
      have HTK := Aside0.mk (Kd.C_take HRr.out (m := k) (by omega))
      have e1 : rd es (k : Int) = es.getD k 0 := by unfold rd; rw [Int.toNat_natCast]
      rw [e1, Int.toNat_natCast] at hx
      have HAT := Aside0.mk (show okAt l.length es k ↔ (0 ≤ es.getD k 0 ∧ es.getD k 0 < l.length ∧ es.getD k 0 ∉ es.take k) from Iff.rfl)
      have HTL := Aside0.mk (show (es.take k).length = k by rw [List.length_take]; omega)
      have hkc : k ≤ c1 := by omega
      subst hA1
      have HCO := Aside0.mk (slices_Contains_int_int.calls 1001 (some ad) c1 (es.take k) (es.getD k 0) _ wr HTK.out (by rw [HTL.out]; exact hkc) (contains_f (es.take k) (es.getD k 0) (by rw [HTL.out]; omega)))
      rw [HTL.out] at HCO
      generalize es.getD k 0 = x at hx HAT HCO
      clear e1
      by_cases h1 : x < 0
      · have HNO := Aside0.mk (show ¬ ∀ i, i < es.length → okAt l.length es i from fun h => by have := (HAT.out.1 (h k hpk)).1; omega)
        go_wp2_with fail
        try rw [Exit.noGoto_ret]
        exact dec_out HDr.out 2 _ rfl rfl (fun W' hb => ⟨2, rfl, .inl ⟨rfl, HNO.out⟩, hb⟩)
      · by_cases h2 : x < l.length
        · by_cases h3 : x ∈ es.take k
          · have HNO := Aside0.mk (show ¬ ∀ i, i < es.length → okAt l.length es i from fun h => (HAT.out.1 (h k hpk)).2.2 h3)
            rw [decide_eq_true h3] at HCO
            go_wp2_with fail
            refine HCO.out.mono ?_
            rintro e w3 ⟨rfl, hd3⟩
            have HD3 := Aside0.mk (HDr.out.step hd3.below)
            obtain ⟨hf0, hf1, hcc0, hcc1⟩ := HD3.out.cells
            have hf2 := HD3.out.b3.frozen
            have hcc2 := HD3.out.b3.cell
            clear hd3
            go_wp2_with fail
            try rw [Exit.noGoto_ret]
            exact dec_out HD3.out 2 _ rfl rfl (fun W' hb => ⟨2, rfl, .inl ⟨rfl, HNO.out⟩, hb⟩)
          · have HYES := Aside0.mk (HAT.out.2 ⟨by omega, h2, h3⟩)
            rw [decide_eq_false h3] at HCO
            go_wp2_with fail
            refine HCO.out.mono ?_
            rintro e w3 ⟨rfl, hd3⟩
            have HB3 := Aside0.mk (HB.out.trans (hd3.below.mono HB.out.size))
            clear hd3
            go_wp2_with fail
            go_roundw
            case rel => exact ⟨k + 1, by omega, by go_num, fun j hj => by
              by_cases h : j = k
              · rw [h]; exact HYES.out
              · exact HOK.out j (by omega), HB3.out⟩
            case measure => simp [intOf]; omega
        · have HNO := Aside0.mk (show ¬ ∀ i, i < es.length → okAt l.length es i from fun h => h2 (HAT.out.1 (h k hpk)).2.1)
          go_wp2_with fail
          try rw [Exit.noGoto_ret]
          exact dec_out HDr.out 2 _ rfl rfl (fun W' hb => ⟨2, rfl, .inl ⟨rfl, HNO.out⟩, hb⟩)
    · obtain rfl : k = es.length := by omega
      have h5 : 4 < es.length := HBAD.out HOK.out
      have h5i : (4 : Int) < (es.length : Int) := by omega
      go_wp2_with fail
      try rw [Exit.noGoto_ret]
      exact dec_out HDr.out 190 _ rfl rfl (fun W' hb => ⟨190, rfl, .inr ⟨rfl, HOK.out⟩, hb⟩)
end Go.Proofs.YtlifghomejdhnaaDoor
