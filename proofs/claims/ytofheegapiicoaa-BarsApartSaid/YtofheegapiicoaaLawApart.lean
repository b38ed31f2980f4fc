/- The law BarsApart: whatever the two lists, it returns true. -/
import Derived.Test.YtofheegapiicoaaBackPure
import Derived.Test.YtofheegapiicoaaFramePure
import Derived.Test.YtofheegapiicoaaBarsG
set_option linter.unusedVariables false
set_option linter.unusedSimpArgs false
namespace Go.Proofs.Ytofheegapiicoaa
open Go.RowKit Go.Shelf Go.Proofs.YtofheegapiicoaaW.PrintWords Go.Proofs.Ytofheegapiicoaa.Q

theorem drop_rd (l : List Int) (i : Nat) (h : i < l.length) : l.drop i = rd l i :: l.drop (i + 1) := by
  rw [List.drop_eq_getElem_cons h]
  congr 1
  simp [rd, List.getD_eq_getElem?_getD, List.getElem?_eq_getElem h]
theorem same_l0 (l0 l1 : List Int) (hl : l0.length = l1.length) (h64 : l0.length ≤ 1000) : ∀ (d k : Nat) (i : Nat), i + d = l0.length → d < k → letterbagkit_SameBytes.l0 k l0 l1 i = some (decide (l0.drop i = l1.drop i)) := by
  intro d
  induction d with
  | zero =>
    intro k i hi hk
    obtain ⟨k, rfl⟩ : ∃ k', k = k' + 1 := ⟨k - 1, by omega⟩
    rw [letterbagkit_SameBytes.l0, if_neg (by omega), List.drop_eq_nil_of_le (by omega), List.drop_eq_nil_of_le (by omega)]
    rfl
  | succ d ih =>
    intro k i hi hk
    obtain ⟨k, rfl⟩ : ∃ k', k = k' + 1 := ⟨k - 1, by omega⟩
    have hw : wrap64 ((i : Int) + 1) = ((i + 1 : Nat) : Int) := by
      unfold wrap64
      omega
    rw [letterbagkit_SameBytes.l0, if_pos (by omega), if_pos (by omega), if_pos (by omega), hw, ih k (i + 1) (by omega) (by omega), drop_rd l0 i (by omega), drop_rd l1 i (by omega)]
    by_cases h : rd l0 i = rd l1 i
    · rw [if_pos h]
      congr 1
      rw [decide_eq_decide, List.cons.injEq]
      exact ⟨fun h2 => ⟨h, h2⟩, fun h2 => h2.2⟩
    · rw [if_neg h]
      congr 1
      symm
      rw [decide_eq_false_iff_not, List.cons.injEq]
      exact fun h2 => h h2.1
theorem same_f (l0 l1 : List Int) (h64 : l0.length ≤ 1000) : letterbagkit_SameBytes.f 1001 l0 l1 = some (decide (l0 = l1)) := by
  unfold letterbagkit_SameBytes.f
  by_cases hl : l0.length = l1.length
  · rw [if_pos (by omega)]
    have := same_l0 l0 l1 hl h64 l0.length 1001 0 (by omega) (by omega)
    rwa [List.drop_zero, List.drop_zero] at this
  · rw [if_neg (by omega)]
    congr 1
    symm
    rw [decide_eq_false_iff_not]
    rintro rfl
    exact hl rfl
theorem strOf_W0 (S : List Int) : strOfNums (W0 S) = ⟨(writeText S).toArray⟩ := by
  apply ByteArray.ext
  apply Array.toList_inj.1
  rw [strOfNums_data, W0, List.map_map]
  conv => rhs; rw [← List.map_id (writeText S)]
  apply List.map_congr_left
  intro b _
  simp
theorem read_written (S : List Int) (hn : S.length ≤ 60) (hS : ∀ x ∈ S, 0 ≤ x ∧ x ≤ 63) : ∃ er, bars_Read.f ⟨(writeText S).toArray⟩ = some (S, er, 0) := by
  have h := told_of S hn hS (W0 S) _ (inv_start S)
  rw [← strOf_W0]
  have e : symsOf (gl (strOfNums (W0 S))) S.length = S := ?_
  · have hr := h.read
    rw [e] at hr
    exact ⟨_, hr⟩
  apply List.ext_getElem
  · rw [symsOf_length]
  · intro i h1 h2
    have hs := h.sym i h2 (by simp [List.getD_eq_getElem?_getD, List.getElem?_replicate, h2])
    have := syms_at (gl (strOfNums (W0 S))) i S.length h2
    rw [hs] at this
    rw [List.getD_eq_getElem?_getD, List.getElem?_eq_getElem h1, List.getD_eq_getElem?_getD, List.getElem?_eq_getElem h2] at this
    simpa using this
theorem text_inj (S T : List Int) (hn : S.length ≤ 60) (hS : ∀ x ∈ S, 0 ≤ x ∧ x ≤ 63) (hm : T.length ≤ 60) (hT : ∀ x ∈ T, 0 ≤ x ∧ x ≤ 63) (h : (⟨(writeText S).toArray⟩ : ByteArray) = ⟨(writeText T).toArray⟩) : S = T := by
  obtain ⟨e1, h1⟩ := read_written S hn hS
  obtain ⟨e2, h2⟩ := read_written T hm hT
  rw [h, h2] at h1
  have := Option.some.inj h1
  exact (congrArg Prod.fst this).symm

theorem CRow.belowB {α : Type} {enc : α → Value} {d : α} {W W' : World} {g B : Nat} {L : List α} (h : CRow enc d W g L) (hb : Below B W W') (hg : g < B) : CRow enc d W' g L :=
  ⟨Nat.lt_of_lt_of_le h.lt hb.size, fun j hj => (hb.cell (p := ⟨g, j, none⟩) hg).trans (h.cell j hj), fun j hj => (hb.frozen (p := ⟨g, j, none⟩) hg).trans (h.free j hj)⟩
theorem CRow.lit (w : World) (e : TypeId) (L : List Value) : CRow id undef (w.alloc (.cells L.toArray e)) w.heap.size L := by
  have hb := heap_alloc_new w (.cells L.toArray e)
  refine ⟨by simp, fun j hj => ?_, fun j hj => ?_⟩
  · rw [World.cell?, hb]
    simp [List.getD_eq_getElem?_getD, List.getElem?_eq_getElem hj]
  · unfold World.frozen?
    rw [hb]
    simp
theorem own_form {w : World} {base : Nat} {e : TypeId} {n : Nat} {v : Value} {xs : List Value} (h : w.ownsRow base e 1 v n xs) : ∃ A c, v = .slice A n c := by
  rcases h.2 with ⟨rfl, rfl⟩ | ⟨g, cap, cur, rfl, _⟩
  · exact ⟨none, 0, rfl⟩
  · exact ⟨_, cap, rfl⟩
theorem own_set {w : World} {base : Nat} {e : TypeId} {n : Nat} {v : Value} {xs : List Value} (h : w.ownsRow base e 1 v n xs) (g i : Nat) (x : Value) (hg : g < base) : (w.setCell ⟨g, i, none⟩ x).ownsRow base e 1 v n xs := by
  have hk : w.grownBy (w.setCell ⟨g, i, none⟩ x) (some g) := by
    refine ⟨rfl, rfl, rfl, by simp, fun k _ hne => ?_⟩
    exact heap_setCell_other _ _ _ _ (by rintro rfl; exact hne rfl)
  refine own_other h hk ?_
  cases hv : v.ownBlock with
  | none => exact .inl rfl
  | some k =>
    right
    intro h2
    have := h.lt k hv
    cases h2
    omega

set_option maxHeartbeats 8000000 in
set_option maxRecDepth 1000000 in
theorem barsApart_any (A0 : Option Addr) (c0 : Nat) (l0 : List Int) (A1 : Option Addr) (c1 : Nat) (l1 : List Int) (w : World) (hr0 : Kd.C (Kd.int .u8) w A0 l0.length l0) (hc0 : l0.length ≤ c0) (hp0 : ∀ x ∈ l0, 0 ≤ x ∧ x < 256) (hr1 : Kd.C (Kd.int .u8) w A1 l1.length l1) (hc1 : l1.length ≤ c1) (hp1 : ∀ x ∈ l1, 0 ≤ x ∧ x < 256) :
    Calls Try.prog 5 #[.slice A0 l0.length c0, .slice A1 l1.length c1] w fun e w' => e = .returned (.bool true) ∧ Below w.heap.size w w' := by
  have HR0 := Aside0.mk hr0
  have HP0 := Aside0.mk hp0
  have HR1 := Aside0.mk hr1
  have HP1 := Aside0.mk hp1
  clear hr0 hp0 hr1 hp1
  obtain ⟨m0, hm0⟩ : ∃ m, min l0.length 60 = m := ⟨_, rfl⟩
  obtain ⟨m1, hm1⟩ : ∃ m, min l1.length 60 = m := ⟨_, rfl⟩
  have hmin0 : min (l0.length : Int) 60 = (m0 : Int) := by omega
  have hmin1 : min (l1.length : Int) 60 = (m1 : Int) := by omega
  have hmax0 : max (m0 : Int) 0 = (m0 : Int) := by omega
  have hmax1 : max (m1 : Int) 0 = (m1 : Int) := by omega
  have hml0 : m0 ≤ l0.length := by omega
  have hml1 : m1 ≤ l1.length := by omega
  have hm60 : m0 ≤ 60 := by omega
  have hm61 : m1 ≤ 60 := by omega
  clear hm0 hm1
  go_enter Try.func5, Try.ntmps5
  go_wp2_with fail
  refine wp_loop_rounds 3 ?_
  rw [rounds_succ]
  go_wp2_with fail
  have hA := CRow.lit w 34 [.slice none 0 0, .slice none 0 0]
  have hA2 := hA.below (below_alloc (Below.refl _ _) (.cells #[.slice A0 l0.length c0, .slice A1 l1.length c1] 22))
  have hT := CRow.lit (w.alloc (.cells #[.slice none 0 0, .slice none 0 0] 34)) 22 [.slice A0 l0.length c0, .slice A1 l1.length c1]
  have hB := ((Below.refl _ w).alloc (Nat.le_refl _) (.cells #[.slice none 0 0, .slice none 0 0] 34)).alloc (by simp) (.cells #[.slice A0 l0.length c0, .slice A1 l1.length c1] 22)
  have hz : ((w.alloc (.cells #[.slice none 0 0, .slice none 0 0] 34)).alloc (.cells #[.slice A0 l0.length c0, .slice A1 l1.length c1] 22)).heap.size = w.heap.size + 2 := by simp
  rw [show (w.alloc (.cells #[.slice none 0 0, .slice none 0 0] 34)).heap.size = w.heap.size + 1 by simp] at hT
  obtain ⟨g, hg⟩ : ∃ g, w.heap.size = g := ⟨_, rfl⟩
  change CRow id undef ((w.alloc (.cells #[.slice none 0 0, .slice none 0 0] 34)).alloc (.cells #[.slice A0 l0.length c0, .slice A1 l1.length c1] 22)) (w.heap.size + 1) _ at hT
  generalize (w.alloc (.cells #[.slice none 0 0, .slice none 0 0] 34)).alloc (.cells #[.slice A0 l0.length c0, .slice A1 l1.length c1] 22) = W2 at *
  rw [hg] at hA2 hT hB hz ⊢
  have HA := Aside0.mk hA2
  have HT := Aside0.mk hT
  have HB := Aside0.mk hB
  have HZ := Aside0.mk hz
  have HGW := Aside0.mk hg
  clear hA hA2 hT hB hz hg
  go_loopw [36] (fun i wr => ∃ (k : Nat) (v : Value), k ≤ m0 ∧ i = .int .i64 k ∧ wr.ownsRow (g + 2) 5 1 v (md (l0.take k)).length (nums .u8 (md (l0.take k))) ∧ CRow id undef wr g [v, .slice none 0 0] ∧ CRow id undef wr (g + 1) [.slice A0 l0.length c0, .slice A1 l1.length c1] ∧ Below g w wr ∧ g + 2 ≤ wr.heap.size) (fun i _ => m0 - (intOf i).toNat)
  case atStart => exact ⟨0, .slice none 0 0, Nat.zero_le _, rfl, World.ownsRow_nil _ _ _ _, HA.out, HT.out, HB.out, by rw [HZ.out]; exact Nat.le_refl _⟩
  case round =>
    obtain ⟨k, v, hk, rfl, ho, ha, ht, hb, hzz⟩ := hrel
    have HO := Aside0.mk ho
    have HAr := Aside0.mk ha
    have HTr := Aside0.mk ht
    have HBr := Aside0.mk hb
    have HZr := Aside0.mk hzz
    have HBw := Aside0.mk (show Below w.heap.size w wr by rw [HGW.out]; exact hb)
    clear ho ht hb hzz HA HT HB HZ
    by_cases hp : k < m0
    · obtain ⟨ad, rfl, hx⟩ := Kd.at_int HR0.out k (by omega) (by omega)
      have hx2 := pw_cell_below HBw.out hx
      have hx0 := HP0.out _ (rd_mem l0 k (by omega))
      have HTk := Aside0.mk (take_snoc_rd l0 k (by omega))
      simp only [Int.toNat_natCast] at hx2
      clear hx
      generalize rd l0 k = x at hx2 hx0 HTk
      obtain ⟨hx0, hx1⟩ := hx0
      have HL := Aside0.mk (show ((md (l0.take k)).length + 1) * 1 ≤ 140737488355328 by rw [md_length, List.length_take]; omega)
      have hcA := ha.cell 0 (by simp)
      have hfA := ha.free 0 (by simp)
      simp only [List.getD_cons_zero, id] at hcA
      clear ha
      go_wp2_with (first | (at_builtin; refine print_append_num (w0 := wr) (g + 2) rfl _ _ 22 5 .u8 1 rfl Try.underlying22 info_u8 (by decide) v (md (l0.take k)) _ rfl rfl HO.out (Below.refl _ _) HZr.out HL.out ?_; intro v1 w1 hown hB1 hg hat; obtain ⟨B1, d1, rfl⟩ := own_form hown; have HO1 := Aside0.mk hown; have HB1 := Aside0.mk hB1; have hA1 := HAr.out.belowB hB1 (by omega); have hcA1 := hA1.cell 0 (by simp); have hfA1 := hA1.free 0 (by simp); simp only [List.getD_cons_zero, id] at hcA1; have HA1 := Aside0.mk hA1; clear hown hB1 hg hat hA1))
      go_roundw
      case rel =>
        refine ⟨k + 1, _, by omega, by go_num, ?_, HA1.out.set 0 (by simp) _, (HTr.out.belowB HB1.out (by omega)).other g 0 _ (by omega), (HBr.out.trans (HB1.out.mono (by omega))).setCell (p := ⟨g, 0, none⟩) (Nat.le_refl _) _, by simpa using Nat.le_trans HZr.out HB1.out.size⟩
        rw [HTk.out, md_append]
        have h := own_set HO1.out g 0 (.slice B1 ((md (l0.take k)).length + 1) d1) (by omega)
        have e : (md (l0.take k) ++ [x % 64]).length = (md (l0.take k)).length + 1 := by simp
        rw [e] at h
        show World.ownsRow _ _ _ _ _ (md (l0.take k) ++ [x % 64]).length (nums .u8 (md (l0.take k) ++ [x % 64]))
        rw [e]
        exact h
      case measure => simp [intOf]; omega
    · obtain rfl : k = m0 := by omega
      have HS0 := Aside0.mk (show ∀ x ∈ md (l0.take k), 0 ≤ x ∧ x ≤ 63 from fun x hx => md_range hx)
      have HN0 := Aside0.mk (show (md (l0.take k)).length = k by rw [md_length, List.length_take]; omega)
      generalize md (l0.take k) = S0 at HS0 HN0 HO
      have hcT := HTr.out.cell 1 (by simp)
      simp only [List.getD_cons_zero, List.getD_cons_succ, id] at hcT
      go_wp2_with fail
      rw [rounds_succ]
      go_wp2_with fail
      obtain ⟨w1, rfl⟩ : ∃ w1, w1 = wr := ⟨_, rfl⟩
      obtain ⟨b, hbz⟩ : ∃ b, w1.heap.size = b := ⟨_, rfl⟩
      have hg2 : g + 2 ≤ b := by rw [← hbz]; exact HZr.out
      have HLT := Aside0.mk (show ∀ q, v.ownBlock = some q → q < b from fun q hq => by rw [← hbz]; exact (HO.out.lt q hq).2)
      have HBZ := Aside0.mk hbz
      clear hbz ha hp hk hcT
      go_loopw [36] (fun i wr => ∃ (k : Nat) (v1 : Value), k ≤ m1 ∧ i = .int .i64 k ∧ wr.ownsRow b 5 1 v1 (md (l1.take k)).length (nums .u8 (md (l1.take k))) ∧ CRow id undef wr g [v, v1] ∧ wr.ownsRow (g + 2) 5 1 v S0.length (nums .u8 S0) ∧ Below g w wr ∧ b ≤ wr.heap.size) (fun i _ => m1 - (intOf i).toNat)
      case atStart => exact ⟨0, .slice none 0 0, Nat.zero_le _, rfl, World.ownsRow_nil _ _ _ _, HAr.out, HO.out, HBr.out, by rw [HBZ.out]; exact Nat.le_refl _⟩
      case round =>
        obtain ⟨j, v1, hj, rfl, ho, ha, ho0, hb, hzz⟩ := hrel
        have HO2 := Aside0.mk ho
        have HA2 := Aside0.mk ha
        have HO0 := Aside0.mk ho0
        have HB2 := Aside0.mk hb
        have HZ2 := Aside0.mk hzz
        have HBw2 := Aside0.mk (show Below w.heap.size w wr by rw [HGW.out]; exact hb)
        clear ho ho0 hb hzz HO HAr HTr HBr HBw HZr
        by_cases hp : j < m1
        · obtain ⟨ad, rfl, hx⟩ := Kd.at_int HR1.out j (by omega) (by omega)
          have hx2 := pw_cell_below HBw2.out hx
          have hx0 := HP1.out _ (rd_mem l1 j (by omega))
          have HTk := Aside0.mk (take_snoc_rd l1 j (by omega))
          simp only [Int.toNat_natCast] at hx2
          clear hx
          generalize rd l1 j = x at hx2 hx0 HTk
          obtain ⟨hx0, hx1⟩ := hx0
          have HL := Aside0.mk (show ((md (l1.take j)).length + 1) * 1 ≤ 140737488355328 by rw [md_length, List.length_take]; omega)
          have hcA := ha.cell 1 (by simp)
          have hfA := ha.free 1 (by simp)
          simp only [List.getD_cons_zero, List.getD_cons_succ, id] at hcA
          clear ha
          go_wp2_with (first | (at_builtin; refine print_append_num (w0 := wr) b rfl _ _ 22 5 .u8 1 rfl Try.underlying22 info_u8 (by decide) v1 (md (l1.take j)) _ rfl rfl HO2.out (Below.refl _ _) HZ2.out HL.out ?_; intro v2 w2 hown hB1 hg hat; obtain ⟨B1, d1, rfl⟩ := own_form hown; have HO3 := Aside0.mk hown; have HB3 := Aside0.mk hB1; have hA1 := HA2.out.belowB hB1 (by omega); have hcA1 := hA1.cell 1 (by simp); have hfA1 := hA1.free 1 (by simp); simp only [List.getD_cons_zero, List.getD_cons_succ, id] at hcA1; have HA3 := Aside0.mk hA1; have HO4 := Aside0.mk (own_other HO0.out hg (by cases hv : v.ownBlock with | none => exact .inl rfl | some q => exact .inr (fun h2 => by have h3 := HLT.out q hv; have h4 := HO2.out.lt q h2.symm; omega))); clear hown hB1 hg hat hA1))
          go_roundw
          case rel =>
            refine ⟨j + 1, _, by omega, by go_num, ?_, HA3.out.set 1 (by simp) _, own_set HO4.out g 1 _ (by omega), (HB2.out.trans (HB3.out.mono (by omega))).setCell (p := ⟨g, 1, none⟩) (Nat.le_refl _) _, by simpa using Nat.le_trans HZ2.out HB3.out.size⟩
            rw [HTk.out, md_append]
            have h := own_set HO3.out g 1 (.slice B1 ((md (l1.take j)).length + 1) d1) (by omega)
            have e : (md (l1.take j) ++ [x % 64]).length = (md (l1.take j)).length + 1 := by simp
            rw [e] at h
            show World.ownsRow _ _ _ _ _ (md (l1.take j) ++ [x % 64]).length (nums .u8 (md (l1.take j) ++ [x % 64]))
            rw [e]
            exact h
          case measure => simp [intOf]; omega
        · obtain rfl : j = m1 := by omega
          have HS1 := Aside0.mk (show ∀ x ∈ md (l1.take j), 0 ≤ x ∧ x ≤ 63 from fun x hx => md_range hx)
          have HN1 := Aside0.mk (show (md (l1.take j)).length = j by rw [md_length, List.length_take]; omega)
          generalize md (l1.take j) = S1 at HS1 HN1 HO2
          obtain ⟨AS, cS, hvS, hcS, hrS⟩ := Kd.R_reads (Kd.R_of_own (h1 := fun _ => rfl) (ok := fun _ => True) HO0.out (fun _ _ => trivial))
          obtain ⟨AT, cT, hvT, hcT, hrT⟩ := Kd.R_reads (Kd.R_of_own (h1 := fun _ => rfl) (ok := fun _ => True) HO2.out (fun _ _ => trivial))
          subst hvS
          subst hvT
          have HRS := Aside0.mk hrS
          have HRT := Aside0.mk hrT
          have hcA := ha.cell 0 (by simp)
          have hcA1 := ha.cell 1 (by simp)
          simp only [List.getD_cons_zero, List.getD_cons_succ, id] at hcA hcA1
          clear hrS hrT
          go_wp2_with fail
          rw [rounds_succ]
          go_wp2_with fail
          have hw0 := write_f S0 (by rw [HN0.out]; omega) HS0.out
          have hw1 := write_f S1 (by rw [HN1.out]; omega) HS1.out
          obtain ⟨er0, hrd0⟩ := read_written S0 (by rw [HN0.out]; omega) HS0.out
          obtain ⟨er1, hrd1⟩ := read_written S1 (by rw [HN1.out]; omega) HS1.out
          have hsb := same_f S0 S1 (by rw [HN0.out]; omega)
          obtain ⟨bb, hbb⟩ : ∃ bb, decide (S0 = S1) = bb := ⟨_, rfl⟩
          have hts : ((⟨(writeText S0).toArray⟩ : ByteArray).toList == (⟨(writeText S1).toArray⟩ : ByteArray).toList) = bb := by
            rw [← hbb, Bool.eq_iff_iff, beq_iff_eq, decide_eq_true_iff, Lib.toList_data, Lib.toList_data]
            refine ⟨fun h4 => text_inj S0 S1 (by rw [HN0.out]; omega) HS0.out (by rw [HN1.out]; omega) HS1.out ?_, fun h => by rw [h]⟩
            rw [← mkB_of ⟨(writeText S0).toArray⟩, h4, mkB_of]
          rw [hbb] at hsb
          generalize (⟨(writeText S0).toArray⟩ : ByteArray) = ta at *
          generalize (⟨(writeText S1).toArray⟩ : ByteArray) = tb at *
          have HW0 := Aside0.mk hw0
          have HW1 := Aside0.mk hw1
          have HD0 := Aside0.mk hrd0
          have HD1 := Aside0.mk hrd1
          have HSB := Aside0.mk hsb
          have HTS := Aside0.mk hts
          have HCS := Aside0.mk hcS
          have HCT := Aside0.mk hcT
          have HAg := Aside0.mk (show g < wr.heap.size by have := HZ2.out; omega)
          clear hw0 hw1 hrd0 hrd1 hsb hts hbb ha hcS hcT HR0 HR1 HP0 HP1 HO0 HO2 HLT HS0 HS1 HBZ HB2 HZ2 hcA
          refine (bars_Write.calls _ _ _ _ _ _ HRS.out HCS.out HW0.out).mono ?_
          rintro e w2 ⟨rfl, hb2⟩
          have HB2 := Aside0.mk (HBw2.out.trans (hb2.mono HBw2.out.size))
          have HA3 := HA2.out.below hb2
          have HRS2 := Aside0.mk (Kd.C_below HRS.out hb2)
          have HRT2 := Aside0.mk (Kd.C_below HRT.out hb2)
          have hcA2 := HA3.cell 1 (by simp)
          simp only [List.getD_cons_zero, List.getD_cons_succ, id] at hcA2
          have HA3 := Aside0.mk HA3
          clear hb2 hcA1
          go_wp2_with fail
          refine (bars_Write.calls _ _ _ _ _ _ HRT2.out HCT.out HW1.out).mono ?_
          rintro e w3 ⟨rfl, hb3⟩
          have HB3 := Aside0.mk (HB2.out.trans (hb3.mono HB2.out.size))
          have HA4 := Aside0.mk (HA3.out.below hb3)
          have HRS3 := Aside0.mk (Kd.C_below HRS2.out hb3)
          have HRT3 := Aside0.mk (Kd.C_below HRT2.out hb3)
          clear hb3 hcA2 HRS HRT HRS2 HRT2 HA3 HA2
          go_wp2_with fail
          refine (bars_Read.calls _ _ _ _ _ HD0.out).mono ?_
          rintro e w4 ⟨v0, v0e, rfl, hv0, hv0e, hb4⟩
          obtain ⟨AX, cX, rfl, hcX, hrX⟩ := Kd.R_reads hv0
          have HB4 := Aside0.mk (HB3.out.trans (hb4.mono HB3.out.size))
          have HA5 := Aside0.mk (HA4.out.below hb4)
          have HRS4 := Aside0.mk (Kd.C_below HRS3.out hb4)
          have HRT4 := Aside0.mk (Kd.C_below HRT3.out hb4)
          have HRX4 := Aside0.mk hrX
          have HCX := Aside0.mk hcX
          clear hb4 hv0 hv0e hrX hcX HRS3 HRT3 HA4
          go_wp2_with fail
          refine (bars_Read.calls _ _ _ _ _ HD1.out).mono ?_
          rintro e w5 ⟨v1, v1e, rfl, hv1, hv1e, hb5⟩
          obtain ⟨AY, cY, rfl, hcY, hrY⟩ := Kd.R_reads hv1
          have HB5 := Aside0.mk (HB4.out.trans (hb5.mono HB4.out.size))
          have HA6 := HA5.out.below hb5
          have HRS5 := Aside0.mk (Kd.C_below HRS4.out hb5)
          have HRT5 := Aside0.mk (Kd.C_below HRT4.out hb5)
          have HRX5 := Aside0.mk (Kd.C_below HRX4.out hb5)
          have HRY5 := Aside0.mk hrY
          have HCY := Aside0.mk hcY
          have hcB0 := HA6.cell 0 (by simp)
          have hcB1 := HA6.cell 1 (by simp)
          simp only [List.getD_cons_zero, List.getD_cons_succ, id] at hcB0 hcB1
          clear hb5 hv1 hv1e hrY hcY HRS4 HRT4 HRX4 HA5 HA6
          go_wp2_with fail
          refine (letterbagkit_SameBytes.calls 1001 _ _ _ _ _ _ _ _ HRS5.out HCS.out HRT5.out HCT.out HSB.out).mono ?_
          rintro e w6 ⟨rfl, hd6⟩
          have HB6 := Aside0.mk (HB5.out.trans (hd6.below.mono HB5.out.size))
          have HRX6 := Aside0.mk (Kd.C_below HRX5.out hd6.below)
          have HRY6 := Aside0.mk (Kd.C_below HRY5.out hd6.below)
          clear hd6 hcB0 hcB1 HRS5 HRT5
          have hts2 := HTS.out
          go_wp2_with fail
          refine (letterbagkit_SameBytes.calls 1001 _ _ _ _ _ _ _ _ HRX6.out HCX.out HRY6.out HCY.out HSB.out).mono ?_
          rintro e w7 ⟨rfl, hd7⟩
          have HB7 := Aside0.mk (HB6.out.trans (hd7.below.mono HB6.out.size))
          clear hd7
          go_wp2_with fail
          refine (awake_any _).mono ?_
          rintro e w8 ⟨rfl, hb8⟩
          have HB8 := Aside0.mk (HB7.out.trans (hb8.mono HB7.out.size))
          clear hb8
          go_wp2
          go_ret
          exact ⟨rfl, HB8.out⟩
end Go.Proofs.Ytofheegapiicoaa
